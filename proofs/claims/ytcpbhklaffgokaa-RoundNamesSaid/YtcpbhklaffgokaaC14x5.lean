import Derived.Outline
import Derived.Test.YtcpbhklaffgokaaC14x4
namespace Go.Proofs.Ytcpbhklaffgokaa.Q
open Go.RowKit Go.Proofs.YtcpbhklaffgokaaW.PrintWords Go.Proofs.YtcpbhklaffgokaaW.PrintLast Go.Proofs.YtcpbhklaffgokaaW.PrintMore
set_option linter.unusedVariables false
set_option linter.unusedSimpArgs false
def labB (m : Nat) (x : S75) : Bool := withinB x.f0 0 100 && (x.f1.length == m && x.f1.all fun n => withinB n (-1) 1000)
def sampB (n : Nat) (x : Int) : Bool := withinB x 0 ((n : Int) - 1)
def checkRound (lots : List S46) (samples : List Int) (spread : Int) (labs : List S75) : Int :=
 if 4 < lots.length ∨ 8 < samples.length ∨ 6 < labs.length then 3
 else if lots.length = 0 ∨ (lots.all fun x => lotB x.f0 x.f1) = false ∨ (samples.all (sampB lots.length)) = false ∨ withinB spread 0 100 = false ∨ (labs.all (labB samples.length)) = false then 1 else 0
def rv (A0 : Option Addr) (c0 : Nat) (lots : List S46) (A1 : Option Addr) (c1 : Nat) (samples : List Int) (spread : Int) (A3 : Option Addr) (c3 : Nat) (labs : List S75) : Value :=
 .agg #[.slice A0 lots.length c0, .slice A1 samples.length c1, .int .i64 spread, .slice A3 labs.length c3]
set_option maxHeartbeats 1000000 in
theorem sample_any (n : Int) (rb ln c0 : Nat) (A0 : Option Addr) (w : World) (hb : w.cell? ⟨rb, 0, none⟩ = some (.slice A0 ln c0)) (hl : ln ≤ 4) :
  Calls Try.prog 43 #[.int .i64 n, .pointer (some ⟨rb, 0, none⟩)] w fun e w' => e = .returned (.bool (sampB ln n)) ∧ Below w.heap.size w w' := by
 go_enter Try.func43, Try.ntmps43
 go_wp2_with (go_at_call 44; refine (within_any _ _ _ _).mono ?_; rintro e w' ⟨rfl, rfl⟩)
 go_ret
 exact ⟨rfl, Below.refl _ _⟩
set_option maxHeartbeats 2000000 in
theorem lab_any (A0 : Option Addr) (c0 : Nat) (n0 : Nat) (A1 : Option Addr) (c1 m : Nat) (spread : Int) (A3 : Option Addr) (c3 n3 : Nat) (x : S75) (B : Option Addr) (d : Nat) (w : World) (hd : x.f1.length ≤ d)
  (hr : (Kd.int .i64).C w B x.f1.length x.f1) (hm : m ≤ 8) :
  Calls Try.prog 50 #[.agg #[.slice A0 n0 c0, .slice A1 m c1, .int .i64 spread, .slice A3 n3 c3], .agg #[.int .i64 x.f0, .slice B x.f1.length d]] w fun e w' => e = .returned (.bool (labB m x)) ∧ Below w.heap.size w w' := by
 have HR := Aside0.mk hr
 clear hr
 cases h1 : withinB x.f0 0 100
 ·have H1 := Aside0.mk (tol_any x.f0)
  simp only [h1] at H1
  have HX : labB m x = false := by simp [labB, h1]
  rw [HX]
  clear HX h1
  go_enter Try.func50, Try.ntmps50
  go_wp2_with (go_at_call 48; (with_reducible refine (H1.out _).mono ?_); rintro e w' ⟨rfl, rfl⟩)
  go_ret
  exact ⟨rfl, by first | exact below_alloc (below_alloc (Below.refl _ _) _) _ | exact below_drew1 (below_alloc (below_alloc (Below.refl _ _) _) _)⟩
 ·have H1 := Aside0.mk (tol_any x.f0)
  simp only [h1] at H1
  by_cases h2 : m = x.f1.length
  ·subst h2
   have H3 := Aside0.mk (fun w' hr' => all3_71 (fun n => withinB n (-1) 1000) x.f1 B d w' hr' (by omega) (fun y hy w1 hw1 => (labread_any y w1).mono (by rintro e w2 ⟨rfl, rfl⟩; exact ⟨rfl, Below.refl _ _⟩)))
   have HX : labB x.f1.length x = x.f1.all fun n => withinB n (-1) 1000 := by simp [labB, h1]
   rw [HX]
   clear HX h1
   go_enter Try.func50, Try.ntmps50
   go_wp2_with (first | (go_at_call 48; (with_reducible refine (H1.out _).mono ?_); rintro e w' ⟨rfl, rfl⟩) | (go_at_call 47; (with_reducible refine (H3.out _ (Kd.C_alloc (Kd.C_alloc HR.out _) _)).mono ?_); rintro e w' ⟨rfl, hb⟩))
   go_ret
   exact ⟨rfl, below_step (below_alloc (below_alloc (Below.refl _ _) _) _) hb⟩
  ·have HX : labB m x = false := by simp [labB, h1]; intro h; exact absurd h.symm h2
   have hne : ((x.f1.length : Int) == (m : Int)) = false := by rw [beq_eq_false_iff_ne]; omega
   rw [HX]
   clear HX h1 h2
   go_enter Try.func50, Try.ntmps50
   go_wp2_with (first | (go_at_call 48; (with_reducible refine (H1.out _).mono ?_); rintro e w' ⟨rfl, rfl⟩))
   go_ret
   exact ⟨rfl, below_alloc (below_alloc (Below.refl _ _) _) _⟩
theorem cells4 {W : World} {g : Nat} {a b c d : Value} {t : TypeId} (h : W.heap[g]? = some (.cells #[a, b, c, d] t (0, 0))) :
  W.cell? ⟨g, 0, none⟩ = some a ∧ W.cell? ⟨g, 1, none⟩ = some b ∧ W.cell? ⟨g, 2, none⟩ = some c ∧ W.cell? ⟨g, 3, none⟩ = some d :=
 ⟨(blk_cell h 0).trans rfl, (blk_cell h 1).trans rfl, (blk_cell h 2).trans rfl, (blk_cell h 3).trans rfl⟩
set_option maxHeartbeats 4000000 in
theorem check_any (A0 : Option Addr) (c0 : Nat) (lots : List S46) (A1 : Option Addr) (c1 : Nat) (samples : List Int) (spread : Int) (A3 : Option Addr) (c3 : Nat) (labs : List S75) (w : World)
  (hr0 : Kd.C k46 w A0 lots.length lots) (hr1 : (Kd.int .i64).C w A1 samples.length samples) (hr3 : Kd.C k75 w A3 labs.length labs) :
  Calls Try.prog 19 #[.agg #[.slice A0 lots.length c0, .slice A1 samples.length c1, .int .i64 spread, .slice A3 labs.length c3]] w fun e w' => e = .returned (.int .i64 (checkRound lots samples spread labs)) ∧ Below w.heap.size w w' := by
 have HR0 := Aside0.mk hr0
 have HR1 := Aside0.mk hr1
 have HR3 := Aside0.mk hr3
 clear hr0 hr1 hr3
 have BX := Aside0.mk (blk_new w (.cells #[.slice A0 lots.length c0, .slice A1 samples.length c1, .int .i64 spread, .slice A3 labs.length c3] 34))
 have HBX := Aside0.mk (below_alloc (Below.refl _ w) (.cells #[.slice A0 lots.length c0, .slice A1 samples.length c1, .int .i64 spread, .slice A3 labs.length c3] 34))
 by_cases h0 : 4 < lots.length
 ·have HX : checkRound lots samples spread labs = 3 := by rw [checkRound, if_pos (by omega)]
  rw [HX]; clear HX
  go_enter Try.func19, Try.ntmps19
  go_wp2_with fail
  go_ret
  exact ⟨rfl, HBX.out⟩
 by_cases h1 : 8 < samples.length
 ·have HX : checkRound lots samples spread labs = 3 := by rw [checkRound, if_pos (by omega)]
  rw [HX]; clear HX
  go_enter Try.func19, Try.ntmps19
  go_wp2_with fail
  go_ret
  exact ⟨rfl, HBX.out⟩
 by_cases h3 : 6 < labs.length
 ·have HX : checkRound lots samples spread labs = 3 := by rw [checkRound, if_pos (by omega)]
  rw [HX]; clear HX
  go_enter Try.func19, Try.ntmps19
  go_wp2_with fail
  go_ret
  exact ⟨rfl, HBX.out⟩
 have HX : checkRound lots samples spread labs = if lots.length = 0 ∨ (lots.all fun x => lotB x.f0 x.f1) = false ∨ (samples.all (sampB lots.length)) = false ∨ withinB spread 0 100 = false ∨ (labs.all (labB samples.length)) = false then 1 else 0 := by rw [checkRound, if_neg (by omega)]
 by_cases hz : lots.length = 0
 ·rw [HX, if_pos (.inl hz)]; clear HX
  have hz' : ((lots.length : Int) == 0) = true := by rw [beq_iff_eq]; omega
  have HZ := Aside0.mk hz
  clear hz
  go_enter Try.func19, Try.ntmps19
  go_wp2_with fail
  go_ret
  exact ⟨rfl, HBX.out⟩
 have hz' : ((lots.length : Int) == 0) = false := by rw [beq_eq_false_iff_ne]; omega
 have C0 := Aside0.mk (fun w' hw' => all46_46 (fun x => lotB x.f0 x.f1) lots A0 c0 w' hw' (by omega) (fun x _ w1 _ => lot_any x.f0 x.f1 w1))
 cases q0 : lots.all fun x => lotB x.f0 x.f1
 ·rw [HX, if_pos (.inr (.inl q0))]; clear HX
  simp only [q0] at C0
  clear q0
  go_enter Try.func19, Try.ntmps19
  go_wp2_with (go_at_call 45; (with_reducible refine (C0.out _ (Kd.C_alloc HR0.out _)).mono ?_); rintro e w1 ⟨rfl, hb⟩)
  go_ret
  exact ⟨rfl, below_step HBX.out hb⟩
 simp only [q0] at C0
 have C1 := Aside0.mk (fun w' hw' => fun hc => all3_43 (rb := w.heap.size) (sampB lots.length) samples A1 c1 w' hw' (by omega) (fun x _ w1 hw1 => sample_any x w.heap.size lots.length c0 A0 w1 ((hw1.cell (World.block_lt_of_cell? _ _ hc)).trans hc) (by omega)))
 cases q1 : samples.all (sampB lots.length)
 ·rw [HX, if_pos (.inr (.inr (.inl q1)))]; clear HX
  simp only [q1] at C1
  clear q0 q1
  go_enter Try.func19, Try.ntmps19
  go_wp2_with (first | (go_at_call 45; (with_reducible refine (C0.out _ (Kd.C_alloc HR0.out _)).mono ?_); rintro e w1 ⟨rfl, hb⟩; have BX := Aside0.mk (blk_below BX.out hb); have HBX := Aside0.mk (below_step HBX.out hb); clear hb; obtain ⟨k0, k1, k2, k3⟩ := cells4 BX.out) | (go_at_call 47; (with_reducible refine (C1.out _ (Kd.C_below HR1.out HBX.out) k0).mono ?_); rintro e w2 ⟨rfl, hb⟩; have BX := Aside0.mk (blk_below BX.out hb); have HBX := Aside0.mk (below_step HBX.out hb); clear hb k0 k1 k2 k3; obtain ⟨k0, k1, k2, k3⟩ := cells4 BX.out))
  go_ret
  exact ⟨rfl, HBX.out⟩
 simp only [q1] at C1
 have C2 := Aside0.mk (fun w' => tol_any spread w')
 cases q2 : withinB spread 0 100
 ·rw [HX, if_pos (.inr (.inr (.inr (.inl q2))))]; clear HX
  simp only [q2] at C2
  clear q0 q1 q2
  go_enter Try.func19, Try.ntmps19
  go_wp2_with (first | (go_at_call 45; (with_reducible refine (C0.out _ (Kd.C_alloc HR0.out _)).mono ?_); rintro e w1 ⟨rfl, hb⟩; have BX := Aside0.mk (blk_below BX.out hb); have HBX := Aside0.mk (below_step HBX.out hb); clear hb; obtain ⟨k0, k1, k2, k3⟩ := cells4 BX.out) | (go_at_call 47; (with_reducible refine (C1.out _ (Kd.C_below HR1.out HBX.out) k0).mono ?_); rintro e w2 ⟨rfl, hb⟩; have BX := Aside0.mk (blk_below BX.out hb); have HBX := Aside0.mk (below_step HBX.out hb); clear hb k0 k1 k2 k3; obtain ⟨k0, k1, k2, k3⟩ := cells4 BX.out) | (go_at_call 48; (with_reducible refine (C2.out _).mono ?_); rintro e w2 ⟨rfl, rfl⟩))
  go_ret
  exact ⟨rfl, HBX.out⟩
 simp only [q2] at C2
 have C3 := Aside0.mk (fun w' hw' => all75_50 (rv := .agg #[.slice A0 lots.length c0, .slice A1 samples.length c1, .int .i64 spread, .slice A3 labs.length c3]) (labB samples.length) labs A3 c3 w' hw' (by omega) (fun x _ w1 hw1 B d hd hg => lab_any A0 c0 lots.length A1 c1 samples.length spread A3 c3 labs.length x B d w1 hd hg (by omega)))
 have HY : checkRound lots samples spread labs = if labs.all (labB samples.length) = true then 0 else 1 := by
  rw [HX]; cases labs.all (labB samples.length) <;> simp [hz, q0, q1, q2]
 rw [HY]
 clear HX HY q0 q1 q2
 cases q3 : labs.all (labB samples.length)
 all_goals
  simp only [q3] at C3
  clear q3
  go_enter Try.func19, Try.ntmps19
  go_wp2_with (first | (go_at_call 45; (with_reducible refine (C0.out _ (Kd.C_alloc HR0.out _)).mono ?_); rintro e w1 ⟨rfl, hb⟩; have BX := Aside0.mk (blk_below BX.out hb); have HBX := Aside0.mk (below_step HBX.out hb); clear hb; obtain ⟨k0, k1, k2, k3⟩ := cells4 BX.out) | (go_at_call 47; (with_reducible refine (C1.out _ (Kd.C_below HR1.out HBX.out) k0).mono ?_); rintro e w2 ⟨rfl, hb⟩; have BX := Aside0.mk (blk_below BX.out hb); have HBX := Aside0.mk (below_step HBX.out hb); clear hb k0 k1 k2 k3; obtain ⟨k0, k1, k2, k3⟩ := cells4 BX.out) | (go_at_call 48; (with_reducible refine (C2.out _).mono ?_); rintro e w2 ⟨rfl, rfl⟩) | (go_at_call 49; (with_reducible refine (C3.out _ (Kd.C_below HR3.out HBX.out)).mono ?_); rintro e w3 ⟨rfl, hb⟩; have HBX := Aside0.mk (below_step HBX.out hb); clear hb))
  go_ret
  exact ⟨rfl, HBX.out⟩
end Go.Proofs.Ytcpbhklaffgokaa.Q
