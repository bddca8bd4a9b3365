import Derived.Deep.RegionLawGrows
import Derived.IntWalk
import Derived.Test.YtcpbhklaffgokaaC14x10
namespace Go.Proofs.Ytcpbhklaffgokaa.Q
open Go.RowKit Go.Proofs.YtcpbhklaffgokaaW.PrintWords Go.Proofs.YtcpbhklaffgokaaW.PrintLast Go.Proofs.YtcpbhklaffgokaaW.PrintMore
set_option linter.unusedVariables false
set_option linter.unusedSimpArgs false
theorem TM.trial {w : World} {g : Nat} (h : TM w g 3 [120, 122, 230] [124, 121, 234] [131, 133, 240] [-1, 118, 229]) : In34 w (.agg #[.slice (some ⟨g, 0, none⟩) 2 2, .slice (some ⟨g + 1, 0, none⟩) 3 3, .int .i64 2, .slice (some ⟨g + 6, 0, none⟩) 4 4]) trialLots trialSamples 2 trialLabs := TM.in34 h rfl rfl rfl rfl
theorem TM.wild {w : World} {g : Nat} (h : TM w g 3 [120, 122, 230] [124, 121, 234] [131, 600, 240] [-1, 118, 229]) : In34 w (.agg #[.slice (some ⟨g, 0, none⟩) 2 2, .slice (some ⟨g + 1, 0, none⟩) 3 3, .int .i64 2, .slice (some ⟨g + 6, 0, none⟩) 4 4]) trialLots trialSamples 2 wildLabs := TM.in34 h rfl rfl rfl rfl
theorem TM.odd {w : World} {g : Nat} (h : TM w g 3 [1001, 122, 230] [124, 121, 234] [131, 133, 240] [-1, 118, 229]) : In34 w (.agg #[.slice (some ⟨g, 0, none⟩) 2 2, .slice (some ⟨g + 1, 0, none⟩) 3 3, .int .i64 2, .slice (some ⟨g + 6, 0, none⟩) 4 4]) trialLots trialSamples 2 oddLabs := TM.in34 h rfl rfl rfl rfl
theorem TM.shorter {w : World} {g : Nat} (h : TM w g 2 [120, 122, 230] [124, 121, 234] [131, 133, 240] [-1, 118, 229]) : In34 w (.agg #[.slice (some ⟨g, 0, none⟩) 2 2, .slice (some ⟨g + 1, 0, none⟩) 3 3, .int .i64 2, .slice (some ⟨g + 6, 0, none⟩) 4 4]) trialLots trialSamples 2 shortLabs := TM.in34s h rfl rfl rfl
theorem TM.fewer {w : World} {g gf cap : Nat} {cur : Array Value} (h : TM w g 3 [120, 122, 230] [124, 121, 234] [131, 133, 240] [-1, 118, 229]) (hf : w.heap[gf]? = some (.cells cur 75 (0, 0)))
  (hc : cur.toList.take 6 = [.int .i64 3, .slice (some ⟨g + 2, 0, none⟩) 3 3, .int .i64 3, .slice (some ⟨g + 3, 0, none⟩) 3 3, .int .i64 5, .slice (some ⟨g + 5, 0, none⟩) 3 3]) :
  In34 w (.agg #[.slice (some ⟨g, 0, none⟩) 2 2, .slice (some ⟨g + 1, 0, none⟩) 3 3, .int .i64 2, .slice (some ⟨gf, 0, none⟩) 3 cap]) trialLots trialSamples 2 fewLabs := TM.few h rfl rfl rfl hf hc
theorem explains_to14 {W : World} {u x : Value} {lots : List S46} {samples : List Int} {spread : Int} {labs : List S75} {l : List Int} {a : Bool} {er : Int} (h : In34 W u lots samples spread labs) (hx : InL W x l) (hl : l.length < 17592186044416) (he : explainsF lots samples spread labs l = (a, er)) : Calls Try.prog 21 #[u, x] W (RetB W (.tuple #[.bool a, .int .i64 er])) := by
 have := explains_at h hx hl
 rwa [he] at this
theorem spans_to14 {W : World} {u x : Value} {lots : List S46} {samples : List Int} {spread : Int} {labs : List S75} {l : List Int} {r : List S46} {er : Int} (h : In34 W u lots samples spread labs) (hx : InL W x l) (hl : l.length < 17592186044416) (he : spansR lots samples spread labs l = (r, er)) : Calls Try.prog 26 #[u, x] W (fun e w' => ∃ y, e = .returned (.tuple #[y, .int .i64 er]) ∧ Below W.heap.size W w') := by
 have h2 := spans_at h hx hl
 rw [he] at h2
 refine h2.mono ?_
 rintro e w' ⟨y, rfl, -, hb⟩
 exact ⟨y, rfl, hb⟩
theorem conv_to14 {W : World} {u : Value} {lots : List S46} {samples : List Int} {spread : Int} {labs : List S75} {r : List Int} {er : Int} (h : In34 W u lots samples spread labs) (he : convF lots samples spread labs = (r, er)) : Calls Try.prog 38 #[u] W (fun e w' => ∃ A c, e = .returned (.tuple #[.slice A r.length c, .int .i64 er]) ∧ r.length ≤ c ∧ (Kd.int .i64).C w' A r.length r ∧ Below W.heap.size W w') := by
 have h2 := convicted_at h
 rw [he] at h2
 refine h2.mono ?_
 rintro e w' ⟨_, rfl, ⟨A, c, rfl, hc, hC⟩, hb⟩
 exact ⟨A, c, rfl, hc, hC, hb⟩
theorem least_to14 {W : World} {u : Value} {lots : List S46} {samples : List Int} {spread : Int} {labs : List S75} {r : List Int} {er : Int} (h : In34 W u lots samples spread labs) (he : leastF lots samples spread labs = (r, er)) : Calls Try.prog 29 #[u] W (fun e w' => ∃ A c, e = .returned (.tuple #[.slice A r.length c, .int .i64 er]) ∧ r.length ≤ c ∧ (Kd.int .i64).C w' A r.length r ∧ Below W.heap.size W w') := by
 have h2 := least_at h
 rw [he] at h2
 refine h2.mono ?_
 rintro e w' ⟨_, rfl, ⟨A, c, rfl, hc, hC⟩, hb⟩
 exact ⟨A, c, rfl, hc, hC, hb⟩
theorem shifts_to14 {W : World} {u : Value} {lots : List S46} {samples : List Int} {spread : Int} {labs : List S75} {lab t0 t1 er : Int} (h : In34 W u lots samples spread labs) (he : shiftsF lots samples spread labs lab = (⟨t0, t1⟩, er)) : Calls Try.prog 32 #[u, .int .i64 lab] W (fun e w' => e = .returned (.tuple #[.agg #[.int .i64 t0, .int .i64 t1], .int .i64 er]) ∧ Below W.heap.size W w') := by
 have := shifts_at h lab
 rw [he] at this
 exact this
theorem check_to14 {W : World} {u : Value} {lots : List S46} {samples : List Int} {spread er : Int} {labs : List S75} (h : In34 W u lots samples spread labs) (he : checkRound lots samples spread labs = er) : Calls Try.prog 19 #[u] W (RetB W (.int .i64 er)) := by
 have := check_at h
 rwa [he] at this
theorem ints_to14 {W : World} {A : Option Addr} {c g : Nat} (hc : 1 ≤ c) (h0 : (Kd.int .i64).C W A 1 [2]) (h1 : W.heap[g]? = some (.cells #[.int .i64 2] 3 (0, 0))) : Calls Try.prog 30 #[.slice A 1 c, .slice (some ⟨g, 0, none⟩) 1 1] W fun e w' => e = .returned (.bool true) ∧ Drawn0 W w' :=
 tensilelaw08_ints.calls 5 _ c [2] _ 1 [2] true W h0 hc (C_ints (xs := [2]) h1 (by decide)) (by decide) (by kernel_rfl)
def nm.T4 : Bool × List (List Nat × List Nat) := (true, [([], []), ([0], [0]), ([1], [1]), ([], []), ([3], [3]), ([4], [4]), ([5], [5]), ([6], [6]), ([2, 7], [2, 7]), ([0, 1, 2, 3, 4, 5, 6, 7, 8], []), ([9, 8, 8, 0, 1, 2, 3, 4, 5, 6, 7, 8], [8, 9])])
def nm.B4 : List Nat := [0, 1, 3, 0, 8, 24, 56, 120, 255, 511, 1023]
theorem nm.tab4 : rtab .any (opsOf Try.f14 4) = nm.T4 := by kernel_rfl
theorem nm.bits4 : waitsOk nm.T4.2 nm.B4 = true := by kernel_rfl
def nm.T20 : Bool × List (List Nat × List Nat) := (true, [([], []), ([0], [0]), ([], []), ([2], [2]), ([3], [3]), ([4], [4]), ([5], [5]), ([6], [6]), ([1, 0, 1, 2, 3, 4, 5, 6, 7], [1]), ([8, 0, 1, 2, 3, 4, 5, 6, 7], [8]), ([9, 7, 0, 1, 2, 3, 4, 5, 6, 7], [7, 9])])
def nm.B20 : List Nat := [0, 1, 0, 4, 12, 28, 60, 124, 255, 511, 1023]
theorem nm.tab20 : rtab .any (opsOf Try.f14 20) = nm.T20 := by kernel_rfl
theorem nm.bits20 : waitsOk nm.T20.2 nm.B20 = true := by kernel_rfl
theorem blk_cells {w : World} {g : Nat} {a b : Value} {t : TypeId} (h : w.heap[g]? = some (.cells #[a, b] t (0, 0))) (j : Nat) (u : Value) (hu : ([a, b] : List Value)[j]? = some u) : w.cell? ((⟨g, 0, none⟩ : Addr).add j) = some u := by
 have e : (⟨g, 0, none⟩ : Addr).add j = ⟨g, j, none⟩ := by unfold Addr.add; split <;> simp_all
 rw [e, blk_cell h]
 simpa using hu
theorem lab_cells {w : World} {g : Nat} (h : w.heap[g + 6]? = some (labsB g 3)) (j : Nat) (u : Value) (hu : ([.int .i64 3, .slice (some ⟨g + 2, 0, none⟩) 3 3, .int .i64 3, .slice (some ⟨g + 3, 0, none⟩) 3 3] : List Value)[j]? = some u) : w.cell? ((⟨g + 6, 0, none⟩ : Addr).add j) = some u := by
 have e : (⟨g + 6, 0, none⟩ : Addr).add j = ⟨g + 6, j, none⟩ := by unfold Addr.add; split <;> simp_all
 rw [e, blk_cell h]
 match j, hu with
 | 0, hu => exact hu
 | 1, hu => exact hu
 | 2, hu => exact hu
 | 3, hu => exact hu
theorem below_grown {w w' : World} (h : w.grownBy w' none) : Below w.heap.size w w' := ⟨h.os, h.tape, h.output, h.size, fun i hi => h.block i hi (by simp)⟩
theorem own_form {w : World} {base e size n : Nat} {v : Value} {xs : List Value} (h : w.ownsRow base e size v (n + 1) xs) : ∃ g cap cur, v = .slice (some ⟨g, 0, none⟩) (n + 1) cap ∧ base ≤ g ∧ w.heap[g]? = some (.cells cur e (0, 0)) ∧ cur.toList.take ((n + 1) * size) = xs := by
 rcases h.2 with ⟨_, h2⟩ | ⟨g, cap, cur, e1, e2, e3, e4, e5, e6, e7⟩
 ·cases h2
 ·exact ⟨g, cap, cur, e1, e2, e3, e7⟩
theorem put4n {w : World} {g : Nat} {t : TypeId} {a b c d : Value} (h : w.heap[g]? = some (.cells #[a, b, c, d] t (0, 0))) (u0 u1 u2 u3 : Value) : ((((w.setCell ⟨g, 0, none⟩ u0).setCell ⟨g, 1, none⟩ u1).setCell ⟨g, 2, none⟩ u2).setCell ⟨g, 3, none⟩ u3).heap[g]? = some (.cells #[u0, u1, u2, u3] t (0, 0)) :=
 blk_put (blk_put (blk_put (blk_put h 0 u0 rfl) 1 u1 rfl) 2 u2 rfl) 3 u3 rfl
theorem in34_nil (W : World) : In34 W (.agg #[.slice none 0 0, .slice none 0 0, .int .i64 0, .slice none 0 0]) [] [] 0 [] := ⟨_, _, _, _, _, _, rfl, Kd.C_nil _ _, Kd.C_nil _ _, Kd.C_nil _ _⟩
theorem zeros10 : (madeCells (Value.agg #[(.int .i64 0), (.int .i64 0)]).cells (5 * 2)).toList = [.int .i64 0, .int .i64 0, .int .i64 0, .int .i64 0, .int .i64 0, .int .i64 0, .int .i64 0, .int .i64 0, .int .i64 0, .int .i64 0] := by kernel_rfl
theorem in34_five {W : World} {g : Nat} {base : Nat} {z : Value} (hz : z = .agg #[(.int .i64 0), (.int .i64 0)]) (h : W.ownsRow base 46 2 (.slice (some ⟨g, 0, none⟩) 5 5) 5 (madeCells z.cells (5 * 2)).toList) : In34 W (.agg #[.slice (some ⟨g, 0, none⟩) 5 5, .slice none 0 0, .int .i64 0, .slice none 0 0]) [⟨0, 0⟩, ⟨0, 0⟩, ⟨0, 0⟩, ⟨0, 0⟩, ⟨0, 0⟩] [] 0 [] := by
 subst hz
 obtain ⟨g', cap, cur, e1, -, hb, ht⟩ := own_form h
 injection e1 with e1 e2 e3
 injection e1 with e1
 injection e1 with e1
 subst e1
 have hg : ∀ i, i < 10 → cur[i]? = some (.int .i64 0) := fun i hi => by
  have h2 : (cur.toList.take 10)[i]? = (madeCells (Value.agg #[(.int .i64 0), (.int .i64 0)]).cells (5 * 2)).toList[i]? := by rw [← ht]
  rw [List.getElem?_take, if_pos hi, Array.getElem?_toList, zeros10] at h2
  rw [h2]
  match i, hi with
  | 0, _ => rfl
  | 1, _ => rfl
  | 2, _ => rfl
  | 3, _ => rfl
  | 4, _ => rfl
  | 5, _ => rfl
  | 6, _ => rfl
  | 7, _ => rfl
  | 8, _ => rfl
  | 9, _ => rfl
 refine ⟨_, _, _, _, _, _, rfl, C_blk (xs := ([⟨0, 0⟩, ⟨0, 0⟩, ⟨0, 0⟩, ⟨0, 0⟩, ⟨0, 0⟩] : List S46)) hb (by simp) (fun _ => [.int .i64 0, .int .i64 0]) (fun j p hj => ?_), Kd.C_nil _ _, Kd.C_nil _ _⟩
 have hp : p = ⟨0, 0⟩ := by
  match j, hj with
  | 0, hj => cases hj; rfl
  | 1, hj => cases hj; rfl
  | 2, hj => cases hj; rfl
  | 3, hj => cases hj; rfl
  | 4, hj => cases hj; rfl
 subst hp
 have hj5 : j < 5 := (List.getElem?_eq_some_iff.1 hj).1
 refine ⟨rfl, k46_mk _ _, fun i u hu => ?_⟩
 have e : k46.sz = 2 := rfl
 rw [e]
 match i, hu with
 | 0, hu => rw [hg _ (by omega)]; exact hu
 | 1, hu => rw [hg _ (by omega)]; exact hu
set_option maxHeartbeats 4000000 in
set_option maxRecDepth 100000 in
theorem names_at (W : World) : Calls Try.prog 14 #[] W (RetB W (.bool true)) := by
 have HB := Aside0.mk (Below.refl W.heap.size W)
 go_enter Try.func14, Try.ntmps14
 go_upto_region 2 with (first | (go_at_call 40; (with_reducible refine (trial_at _).mono ?_); rintro e w_a ⟨ga, rfl, hT, hge, hb⟩; have HGa := Aside0.mk (Nat.le_trans (below_size (by repeat (first | (with_reducible exact HB.out) | apply below_alloc | apply pw_below_drewN | apply below_drew1))) hge); replace HB := Aside0.mk (below_step (by repeat (first | (with_reducible exact HB.out) | apply below_alloc | apply pw_below_drewN | apply below_drew1)) hb); have HTa := Aside0.mk hT; clear hb hT hge) | (go_at_call 21; (with_reducible refine (explains_to14 (l := [0, 1]) ((TM.trial HTa.out).below (by repeat (first | (with_reducible exact Below.refl _ _) | apply below_alloc | apply pw_below_drewN | apply below_drew1))) (InL.two (blk_new _ _)) (by decide) n_ex.1).mono ?_); rintro e w_ae ⟨rfl, hb⟩; replace HB := Aside0.mk (below_step (by repeat (first | (with_reducible exact HB.out) | apply below_alloc | apply pw_below_drewN | apply below_drew1)) hb); clear hb HTa HGa))
 go_upto_region 3 with (first | (go_at_call 40; (with_reducible refine (trial_at _).mono ?_); rintro e w_b ⟨gb, rfl, hT, hge, hb⟩; have HGb := Aside0.mk (Nat.le_trans (below_size (by repeat (first | (with_reducible exact HB.out) | apply below_alloc | apply pw_below_drewN | apply below_drew1))) hge); replace HB := Aside0.mk (below_step (by repeat (first | (with_reducible exact HB.out) | apply below_alloc | apply pw_below_drewN | apply below_drew1)) hb); have HTb := Aside0.mk hT; clear hb hT hge) | (go_at_call 38; (with_reducible refine (conv_to14 ((TM.trial HTb.out).below (by repeat (first | (with_reducible exact Below.refl _ _) | apply below_alloc | apply pw_below_drewN | apply below_drew1))) n_cv.1).mono ?_); rintro e w_c ⟨Acc, ccc, rfl, hccc, hC, hb⟩; replace HB := Aside0.mk (below_step (by repeat (first | (with_reducible exact HB.out) | apply below_alloc | apply pw_below_drewN | apply below_drew1)) hb); have HCc := Aside0.mk hC; clear hb hC))
 clear HTb HGb
 have HBc := Aside0.mk (Below.refl w_c.heap.size w_c)
 go_upto_region 4 with (first | (go_at_call 40; (with_reducible refine (trial_at _).mono ?_); rintro e w_d ⟨g, rfl, hT, hge, hb⟩; have HGd := Aside0.mk (Nat.le_trans (below_size (by repeat (first | (with_reducible exact HB.out) | apply below_alloc | apply pw_below_drewN | apply below_drew1))) hge); replace HB := Aside0.mk (below_step (by repeat (first | (with_reducible exact HB.out) | apply below_alloc | apply pw_below_drewN | apply below_drew1)) hb); replace HBc := Aside0.mk (below_step (by repeat (first | (with_reducible exact HBc.out) | apply below_alloc | apply pw_below_drewN | apply below_drew1)) hb); have HTd := Aside0.mk hT; clear hb hT hge))
 have B5 := Aside0.mk (blk_new w_d (.cells #[.slice (some ⟨g, 0, none⟩) 2 2, .slice (some ⟨g + 1, 0, none⟩) 3 3, .int .i64 2, .slice (some ⟨g + 6, 0, none⟩) 4 4] 34))
 have HT := Aside0.mk (HTd.out.below (below_alloc (Below.refl _ w_d) (.cells #[.slice (some ⟨g, 0, none⟩) 2 2, .slice (some ⟨g + 1, 0, none⟩) 3 3, .int .i64 2, .slice (some ⟨g + 6, 0, none⟩) 4 4] 34)))
 have HSz := Aside0.mk (blk_lt HTd.out.labs)
 have HWb := Aside0.mk (below_size HB.out)
 have HCb := Aside0.mk (below_size HBc.out)
 replace HB := Aside0.mk (below_alloc HB.out (.cells #[.slice (some ⟨g, 0, none⟩) 2 2, .slice (some ⟨g + 1, 0, none⟩) 3 3, .int .i64 2, .slice (some ⟨g + 6, 0, none⟩) 4 4] 34))
 replace HBc := Aside0.mk (below_alloc HBc.out (.cells #[.slice (some ⟨g, 0, none⟩) 2 2, .slice (some ⟨g + 1, 0, none⟩) 3 3, .int .i64 2, .slice (some ⟨g + 6, 0, none⟩) 4 4] 34))
 clear HTd
 generalize w_d.alloc (.cells #[.slice (some ⟨g, 0, none⟩) 2 2, .slice (some ⟨g + 1, 0, none⟩) 3 3, .int .i64 2, .slice (some ⟨g + 6, 0, none⟩) 4 4] 34) = w1 at B5 HT HB HBc ⊢
 generalize w_d.heap.size = b5 at B5 HSz HWb HCb ⊢
 refine start_ (n := 11) (S := fun w' => w'.cell? ⟨b5, 3, none⟩ = some (.slice (some ⟨g + 6, 0, none⟩) 4 4) ∧ w'.cell? ⟨g + 6, 6, none⟩ = some (.int .i64 5) ∧ w'.cell? ⟨g + 6, 7, none⟩ = some (.slice (some ⟨g + 5, 0, none⟩) 3 3)) (ds := [10]) #[false, false, false, false, false, false, false, false, false, false, false] (by kernel_rfl) rfl rfl ⟨(blk_cell (blk_drew B5.out) 3).trans rfl, (blk_cell (blk_drew HT.out.labs) 6).trans rfl, (blk_cell (blk_drew HT.out.labs) 7).trans rfl⟩ (fun hHeld => ?_)
 refine with_tabW nm.tab4 nm.bits4 (fun HT_ HW_ => ?_)
 replace B5 := Aside0.mk (blk_drew B5.out)
 replace HT := Aside0.mk (HT.out.below (below_drew1 (Below.refl _ _)))
 replace HB := Aside0.mk (below_drew1 HB.out)
 replace HBc := Aside0.mk (below_drew1 HBc.out)
 generalize w1.drew = w2 at B5 HT HB HBc hHeld ⊢
 have HD := Aside0.mk (Below.refl w2.heap.size w2)
 refine pure_ (i := 0) (N := some 31) (v := ?_) (a' := ?_) #[true, false, false, false, false, false, false, false, false, false, false] rfl rfl (any_of HT_.out (by kernel_rfl)) (fun _ _ _ h => h) (Or.inl ⟨by rfl, ?_⟩) ?_ ?_
 rotate_left
 ·intro w'
  go_simp
  with_reducible rfl
 rotate_left
 ·simp only [Act.put, List.setIfInBounds_toArray, List.set_cons_zero, List.set_cons_succ, i64_w, i32_w]
  rfl
 refine pure_ (i := 3) (N := some 34) (v := ?_) (a' := ?_) #[true, false, false, true, false, false, false, false, false, false, false] rfl rfl (any_of HT_.out (by kernel_rfl)) (fun _ _ _ h => h) (Or.inl ⟨by rfl, ?_⟩) ?_ ?_
 rotate_left
 ·intro w'
  go_simp
  with_reducible rfl
 rotate_left
 ·simp only [Act.put, List.setIfInBounds_toArray, List.set_cons_zero, List.set_cons_succ, i64_w, i32_w]
  rfl
 refine take_ (i := 1) (N := some 32) (v := ?_) (a' := ?_) #[true, true, false, true, false, false, false, false, false, false, false] rfl rfl (take_ofW HT_.out HW_.out (by kernel_rfl)) (fun _ _ _ h => h) (Or.inl ⟨by rfl, ?_⟩) hHeld ?_ ?_
 rotate_left
 ·rintro w' ⟨s0, s1, s2⟩
  go_simp
  with_reducible rfl
 rotate_left
 ·simp only [Act.put, List.setIfInBounds_toArray, List.set_cons_zero, List.set_cons_succ, i64_w, i32_w]
  rfl
 refine pure_ (i := 2) (N := some 33) (v := ?_) (a' := ?_) #[true, true, true, true, false, false, false, false, false, false, false] rfl rfl (any_of HT_.out (by kernel_rfl)) (fun _ _ _ h => h) (Or.inl ⟨by rfl, ?_⟩) ?_ ?_
 rotate_left
 ·intro w'
  go_simp
  with_reducible rfl
 rotate_left
 ·simp only [Act.put, List.setIfInBounds_toArray, List.set_cons_zero, List.set_cons_succ, i64_w, i32_w]
  rfl
 refine take_ (i := 4) (N := some 35) (v := ?_) (a' := ?_) #[true, true, true, true, true, false, false, false, false, false, false] rfl rfl (take_ofW HT_.out HW_.out (by kernel_rfl)) (fun _ _ _ h => h) (Or.inl ⟨by rfl, ?_⟩) hHeld ?_ ?_
 rotate_left
 ·rintro w' ⟨s0, s1, s2⟩
  go_simp
  with_reducible rfl
 rotate_left
 ·simp only [Act.put, List.setIfInBounds_toArray, List.set_cons_zero, List.set_cons_succ, i64_w, i32_w]
  rfl
 refine pure_ (i := 5) (N := some 36) (v := ?_) (a' := ?_) #[true, true, true, true, true, true, false, false, false, false, false] rfl rfl (any_of HT_.out (by kernel_rfl)) (fun _ _ _ h => h) (Or.inl ⟨by rfl, ?_⟩) ?_ ?_
 rotate_left
 ·intro w'
  go_simp
  with_reducible rfl
 rotate_left
 ·simp only [Act.put, List.setIfInBounds_toArray, List.set_cons_zero, List.set_cons_succ, i64_w, i32_w]
  rfl
 refine take_ (i := 6) (N := some 37) (v := ?_) (a' := ?_) #[true, true, true, true, true, true, true, false, false, false, false] rfl rfl (take_ofW HT_.out HW_.out (by kernel_rfl)) (fun _ _ _ h => h) (Or.inl ⟨by rfl, ?_⟩) hHeld ?_ ?_
 rotate_left
 ·rintro w' ⟨s0, s1, s2⟩
  go_simp
  with_reducible rfl
 rotate_left
 ·simp only [Act.put, List.setIfInBounds_toArray, List.set_cons_zero, List.set_cons_succ, i64_w, i32_w]
  rfl
 refine one_ (i := 7) (N := some 38) #[true, true, true, true, true, true, true, true, false, false, false] rfl rfl (one_of HT_.out (by kernel_rfl)) (by decide) (fun K hK => ?_)
 refine lit_blk_step ?hg (N := 38) ?hd (cs := #[.int .i64 5, .slice (some ⟨g + 5, 0, none⟩) 3 3]) (t := 75) (n := 1) ?hr ?_; (case hd => rfl); (case hg => rfl); (case hr => first | (go_simp; done) | (go_simp; rfl))
 intro g8 hg8 wA hB8 hb
 have B8 := Aside0.mk hB8
 replace HD := Aside0.mk (below_step HD.out hb)
 clear hg8 hB8 hb
 refine hK.out _ _ ⟨(blk_cell (blk_below (g := b5) (o := .cells #[.slice (some ⟨g, 0, none⟩) 2 2, .slice (some ⟨g + 1, 0, none⟩) 3 3, .int .i64 2, .slice (some ⟨g + 6, 0, none⟩) 4 4] 34 (0, 0)) B5.out HD.out) 3).trans rfl, (blk_cell (HT.out.below HD.out).labs 6).trans rfl, (blk_cell (HT.out.below HD.out).labs 7).trans rfl⟩ (fun hHeld => ?_)
 clear hK K
 refine norm_ (a' := ?_) ?_ ?_
 rotate_left
 ·show Act.put _ (some 38) _ = _
  simp only [Act.put, List.setIfInBounds_toArray, List.set_cons_zero, List.set_cons_succ, i64_w, i32_w]
  rfl
 refine one_ (i := 8) (N := some 39) #[true, true, true, true, true, true, true, true, true, false, false] rfl rfl (one_of HT_.out (by kernel_rfl)) (by decide) (fun K hK => ?_)
 have hL := (HT.out.below HD.out).labs
 obtain ⟨i0, hi, hz0, hz1, hz2⟩ := info_parts info75
 refine step_append_grows rfl (.tmp 33) (.tmp 38) 32 rfl 75 i0 (.agg #[(.int .i64 0), (.slice none 0 0)]) 2 32 Try.underlying32 hi hz0 hz1 hz2 rfl (by decide) (some ⟨g + 6, 0, none⟩) 2 2 [.int .i64 3, .slice (some ⟨g + 2, 0, none⟩) 3 3, .int .i64 3, .slice (some ⟨g + 3, 0, none⟩) 3 3] (by rfl) (fun h_ => by cases h_) rfl (fun b_ hb_ j u hu => by cases hb_; exact lab_cells hL j u hu) ⟨g8, 0, none⟩ 1 1 [.int .i64 5, .slice (some ⟨g + 5, 0, none⟩) 3 3] (by rfl) rfl (fun j u hu => blk_cells B8.out j u hu) (fun u hu => by rcases List.mem_cons.1 hu with rfl | hu; rfl; rw [List.mem_singleton.1 hu]; rfl) (by decide) (by decide) (by decide) ?_
 intro v39 wB ho hg
 obtain ⟨gf, cf, curf, rfl, hgf, hfc, htk⟩ := own_form ho
 have BF := Aside0.mk hfc
 have HTk := Aside0.mk htk
 have HGF := Aside0.mk (Nat.le_trans HD.out.size hgf)
 replace HD := Aside0.mk (below_step HD.out (below_grown hg))
 clear ho hg hgf hfc htk hi hz0 hz1 hz2 hL B8
 refine hK.out _ _ ⟨(blk_cell (blk_below (g := b5) (o := .cells #[.slice (some ⟨g, 0, none⟩) 2 2, .slice (some ⟨g + 1, 0, none⟩) 3 3, .int .i64 2, .slice (some ⟨g + 6, 0, none⟩) 4 4] 34 (0, 0)) B5.out HD.out) 3).trans rfl, (blk_cell (HT.out.below HD.out).labs 6).trans rfl, (blk_cell (HT.out.below HD.out).labs 7).trans rfl⟩ (fun hHeld => ?_)
 clear hK K
 refine norm_ (a' := ?_) ?_ ?_
 rotate_left
 ·show Act.put _ (some 39) _ = _
  simp only [Act.put, List.setIfInBounds_toArray, List.set_cons_zero, List.set_cons_succ, i64_w, i32_w]
  rfl
 refine pure_ (i := 9) (N := some 40) (v := ?_) (a' := ?_) #[true, true, true, true, true, true, true, true, true, true, false] rfl rfl (any_of HT_.out (by kernel_rfl)) (fun _ _ _ h => h) (Or.inl ⟨by rfl, ?_⟩) ?_ ?_
 rotate_left
 ·intro w'
  go_simp
  with_reducible rfl
 rotate_left
 ·simp only [Act.put, List.setIfInBounds_toArray, List.set_cons_zero, List.set_cons_succ, i64_w, i32_w]
  rfl
 refine last_ (i := 10) (N := none) #[true, true, true, true, true, true, true, true, true, true, true] rfl rfl (one_of HT_.out (by kernel_rfl)) (by decide) (fun K hK => ?_)
 have hc8 := (blk_cell (blk_below (g := b5) (o := .cells #[.slice (some ⟨g, 0, none⟩) 2 2, .slice (some ⟨g + 1, 0, none⟩) 3 3, .int .i64 2, .slice (some ⟨g + 6, 0, none⟩) 4 4] 34 (0, 0)) B5.out HD.out) 3).trans rfl
 have hf8 := blk_frozen (blk_below (g := b5) (o := .cells #[.slice (some ⟨g, 0, none⟩) 2 2, .slice (some ⟨g + 1, 0, none⟩) 3 3, .int .i64 2, .slice (some ⟨g + 6, 0, none⟩) 4 4] 34 (0, 0)) B5.out HD.out) 3
 refine skip_ (w1 := ?_) (by rfl) rfl ?_ ?_
 rotate_left
 ·go_simp
  rfl
 refine hK.out _ _ ?_
 clear hK K
 refine done_ (done_of HT_.out (by kernel_rfl)) ?_
 clear hHeld hc8 hf8
 have hlt5 := blk_lt B5.out
 have hne5 : b5 ≠ gf := by have := HGF.out; omega
 have hF := TM.fewer (cap := cf) ((HT.out.below HD.out).far (k := b5) (i := 3) (Or.inr HSz.out) (.slice (some ⟨gf, 0, none⟩) 3 cf)) (blk_far (p := ⟨b5, 3, none⟩) BF.out (by dsimp only; exact hne5.symm) (.slice (some ⟨gf, 0, none⟩) 3 cf)) HTk.out
 have HF := Aside0.mk hF
 replace B5 := Aside0.mk (blk_put (cs := #[.slice (some ⟨g, 0, none⟩) 2 2, .slice (some ⟨g + 1, 0, none⟩) 3 3, .int .i64 2, .slice (some ⟨g + 6, 0, none⟩) 4 4]) (cs' := #[.slice (some ⟨g, 0, none⟩) 2 2, .slice (some ⟨g + 1, 0, none⟩) 3 3, .int .i64 2, .slice (some ⟨gf, 0, none⟩) 3 cf]) (blk_below (g := b5) (o := .cells #[.slice (some ⟨g, 0, none⟩) 2 2, .slice (some ⟨g + 1, 0, none⟩) 3 3, .int .i64 2, .slice (some ⟨g + 6, 0, none⟩) 4 4] 34 (0, 0)) B5.out HD.out) 3 (.slice (some ⟨gf, 0, none⟩) 3 cf) rfl)
 replace HB := Aside0.mk (below_set (g := b5) (j := 3) (v := .slice (some ⟨gf, 0, none⟩) 3 cf) (below_step HB.out HD.out) HWb.out)
 replace HBc := Aside0.mk (below_set (g := b5) (j := 3) (v := .slice (some ⟨gf, 0, none⟩) 3 cf) (below_step HBc.out HD.out) HCb.out)
 clear hF hlt5 hne5 HT HD HSz HWb HCb HGF BF HTk HGd
 generalize World.setCell wB ⟨b5, 3, none⟩ (.slice (some ⟨gf, 0, none⟩) 3 cf) = w3 at HF B5 HB HBc ⊢
 obtain ⟨x0, x1, x2, x3⟩ := cells4 B5.out
 have lt5 := blk_lt B5.out
 go_upto_region 6 with (first | (go_at_call 29; (with_reducible refine (least_to14 (HF.out.below (by repeat (first | (with_reducible exact Below.refl _ _) | apply below_alloc | apply pw_below_drewN | apply below_drew1))) n_cv.2.2).mono ?_); rintro e w_l ⟨Acl, ccl, rfl, hccl, hC, hb⟩; replace HB := Aside0.mk (below_step (by repeat (first | (with_reducible exact HB.out) | apply below_alloc | apply pw_below_drewN | apply below_drew1)) hb); replace HBc := Aside0.mk (below_step (by repeat (first | (with_reducible exact HBc.out) | apply below_alloc | apply pw_below_drewN | apply below_drew1)) hb); replace B5 := Aside0.mk (blk_below (g := b5) (o := .cells #[.slice (some ⟨g, 0, none⟩) 2 2, .slice (some ⟨g + 1, 0, none⟩) 3 3, .int .i64 2, .slice (some ⟨gf, 0, none⟩) 3 cf] 34 (0, 0)) (by (with_reducible repeat (first | exact B5.out | refine blk_drewN ?_ _ | refine blk_drew ?_ | refine blk_alloc ?_ _))) hb); clear x0 x1 x2 x3 lt5; obtain ⟨x0, x1, x2, x3⟩ := cells4 B5.out; have lt5 := blk_lt B5.out; replace HF := Aside0.mk (HF.out.below (below_step (by repeat (first | (with_reducible exact Below.refl _ _) | apply below_alloc | apply pw_below_drewN | apply below_drew1)) hb)); have HCl := Aside0.mk hC; clear hb hC))
 go_upto_region 7 with (first | (go_at_call 32; (with_reducible refine (shifts_to14 (HF.out.below (by repeat (first | (with_reducible exact Below.refl _ _) | apply below_alloc | apply pw_below_drewN | apply below_drew1))) n_sh.1).mono ?_); rintro e w_s ⟨rfl, hb⟩; replace HB := Aside0.mk (below_step (by repeat (first | (with_reducible exact HB.out) | apply below_alloc | apply pw_below_drewN | apply below_drew1)) hb); replace HBc := Aside0.mk (below_step (by repeat (first | (with_reducible exact HBc.out) | apply below_alloc | apply pw_below_drewN | apply below_drew1)) hb); replace B5 := Aside0.mk (blk_below (g := b5) (o := .cells #[.slice (some ⟨g, 0, none⟩) 2 2, .slice (some ⟨g + 1, 0, none⟩) 3 3, .int .i64 2, .slice (some ⟨gf, 0, none⟩) 3 cf] 34 (0, 0)) (by (with_reducible repeat (first | exact B5.out | refine blk_drewN ?_ _ | refine blk_drew ?_ | refine blk_alloc ?_ _))) hb); clear x0 x1 x2 x3 lt5; obtain ⟨x0, x1, x2, x3⟩ := cells4 B5.out; have lt5 := blk_lt B5.out; replace HF := Aside0.mk (HF.out.below (below_step (by repeat (first | (with_reducible exact Below.refl _ _) | apply below_alloc | apply pw_below_drewN | apply below_drew1)) hb)); clear hb))
 have B8 := Aside0.mk (blk_new w_s (.cells #[.int .i64 (-4), .int .i64 2] 46))
 replace B5 := Aside0.mk (blk_alloc B5.out (.cells #[.int .i64 (-4), .int .i64 2] 46))
 replace HF := Aside0.mk (HF.out.below (below_alloc (Below.refl _ w_s) (.cells #[.int .i64 (-4), .int .i64 2] 46)))
 replace HB := Aside0.mk (below_alloc HB.out (.cells #[.int .i64 (-4), .int .i64 2] 46))
 replace HBc := Aside0.mk (below_alloc HBc.out (.cells #[.int .i64 (-4), .int .i64 2] 46))
 clear x0 x1 x2 x3 lt5
 generalize w_s.alloc (.cells #[.int .i64 (-4), .int .i64 2] 46) = w4 at B8 B5 HF HB HBc ⊢
 generalize w_s.heap.size = b8 at B8 ⊢
 obtain ⟨x0, x1, x2, x3⟩ := cells4 B5.out
 have lt5 := blk_lt B5.out
 obtain ⟨y0, y1⟩ := cells2 B8.out
 have lt8 := blk_lt B8.out
 go_upto_region 9 with (first | (go_at_call 30; (with_reducible refine (ints_to14 hccc (Kd.C_below HCc.out (by repeat (first | (with_reducible exact HBc.out) | apply below_alloc | apply pw_below_drewN | apply below_drew1))) (blk_new _ _)).mono ?_); rintro e w5 ⟨rfl, ⟨m5, rfl⟩⟩))
 clear y0 y1 lt8 B8 HBc HCc
 go_upto_region 10 with (first | (go_at_call 40; (with_reducible refine (trial_at _).mono ?_); rintro e w_e ⟨ge, rfl, hT, hge, hb⟩; have HGe := Aside0.mk (Nat.le_trans (below_size (by repeat (first | (with_reducible exact HB.out) | apply below_alloc | apply pw_below_drewN | apply below_drew1))) hge); replace HB := Aside0.mk (below_step (by repeat (first | (with_reducible exact HB.out) | apply below_alloc | apply pw_below_drewN | apply below_drew1)) hb); replace B5 := Aside0.mk (blk_below (g := b5) (o := .cells #[.slice (some ⟨g, 0, none⟩) 2 2, .slice (some ⟨g + 1, 0, none⟩) 3 3, .int .i64 2, .slice (some ⟨gf, 0, none⟩) 3 cf] 34 (0, 0)) (by (with_reducible repeat (first | exact B5.out | refine blk_drewN ?_ _ | refine blk_drew ?_ | refine blk_alloc ?_ _))) hb); clear x0 x1 x2 x3 lt5; obtain ⟨x0, x1, x2, x3⟩ := cells4 B5.out; have lt5 := blk_lt B5.out; replace HF := Aside0.mk (HF.out.below (below_step (by repeat (first | (with_reducible exact Below.refl _ _) | apply below_alloc | apply pw_below_drewN | apply below_drew1)) hb)); have HTe := Aside0.mk hT; clear hb hT hge) | (go_at_call 21; (with_reducible refine (explains_to14 (l := [2, 2]) ((TM.trial HTe.out).below (by repeat (first | (with_reducible exact Below.refl _ _) | apply below_alloc | apply pw_below_drewN | apply below_drew1))) (InL.two (blk_new _ _)) (by decide) n_ex.2).mono ?_); rintro e w_ee ⟨rfl, hb⟩; replace HB := Aside0.mk (below_step (by repeat (first | (with_reducible exact HB.out) | apply below_alloc | apply pw_below_drewN | apply below_drew1)) hb); replace B5 := Aside0.mk (blk_below (g := b5) (o := .cells #[.slice (some ⟨g, 0, none⟩) 2 2, .slice (some ⟨g + 1, 0, none⟩) 3 3, .int .i64 2, .slice (some ⟨gf, 0, none⟩) 3 cf] 34 (0, 0)) (by (with_reducible repeat (first | exact B5.out | refine blk_drewN ?_ _ | refine blk_drew ?_ | refine blk_alloc ?_ _))) hb); clear x0 x1 x2 x3 lt5; obtain ⟨x0, x1, x2, x3⟩ := cells4 B5.out; have lt5 := blk_lt B5.out; replace HF := Aside0.mk (HF.out.below (below_step (by repeat (first | (with_reducible exact Below.refl _ _) | apply below_alloc | apply pw_below_drewN | apply below_drew1)) hb)); clear hb HTe HGe))
 go_upto_region 11 with (first | (go_at_call 40; (with_reducible refine (trial_at _).mono ?_); rintro e w_f ⟨gf_, rfl, hT, hge, hb⟩; have HGf := Aside0.mk (Nat.le_trans (below_size (by repeat (first | (with_reducible exact HB.out) | apply below_alloc | apply pw_below_drewN | apply below_drew1))) hge); replace HB := Aside0.mk (below_step (by repeat (first | (with_reducible exact HB.out) | apply below_alloc | apply pw_below_drewN | apply below_drew1)) hb); replace B5 := Aside0.mk (blk_below (g := b5) (o := .cells #[.slice (some ⟨g, 0, none⟩) 2 2, .slice (some ⟨g + 1, 0, none⟩) 3 3, .int .i64 2, .slice (some ⟨gf, 0, none⟩) 3 cf] 34 (0, 0)) (by (with_reducible repeat (first | exact B5.out | refine blk_drewN ?_ _ | refine blk_drew ?_ | refine blk_alloc ?_ _))) hb); clear x0 x1 x2 x3 lt5; obtain ⟨x0, x1, x2, x3⟩ := cells4 B5.out; have lt5 := blk_lt B5.out; replace HF := Aside0.mk (HF.out.below (below_step (by repeat (first | (with_reducible exact Below.refl _ _) | apply below_alloc | apply pw_below_drewN | apply below_drew1)) hb)); have HTf := Aside0.mk hT; clear hb hT hge) | (go_at_call 26; (with_reducible refine (spans_to14 (l := [4]) ((TM.trial HTf.out).below (by repeat (first | (with_reducible exact Below.refl _ _) | apply below_alloc | apply pw_below_drewN | apply below_drew1))) (InL.one (blk_new _ _)) (by decide) n_sp.1).mono ?_); rintro e w_fe ⟨y_f, rfl, hb⟩; replace HB := Aside0.mk (below_step (by repeat (first | (with_reducible exact HB.out) | apply below_alloc | apply pw_below_drewN | apply below_drew1)) hb); replace B5 := Aside0.mk (blk_below (g := b5) (o := .cells #[.slice (some ⟨g, 0, none⟩) 2 2, .slice (some ⟨g + 1, 0, none⟩) 3 3, .int .i64 2, .slice (some ⟨gf, 0, none⟩) 3 cf] 34 (0, 0)) (by (with_reducible repeat (first | exact B5.out | refine blk_drewN ?_ _ | refine blk_drew ?_ | refine blk_alloc ?_ _))) hb); clear x0 x1 x2 x3 lt5; obtain ⟨x0, x1, x2, x3⟩ := cells4 B5.out; have lt5 := blk_lt B5.out; replace HF := Aside0.mk (HF.out.below (below_step (by repeat (first | (with_reducible exact Below.refl _ _) | apply below_alloc | apply pw_below_drewN | apply below_drew1)) hb)); clear hb HTf HGf))
 go_upto_region 12 with (first | (go_at_call 40; (with_reducible refine (trial_at _).mono ?_); rintro e w_h ⟨gh, rfl, hT, hge, hb⟩; have HGh := Aside0.mk (Nat.le_trans (below_size (by repeat (first | (with_reducible exact HB.out) | apply below_alloc | apply pw_below_drewN | apply below_drew1))) hge); replace HB := Aside0.mk (below_step (by repeat (first | (with_reducible exact HB.out) | apply below_alloc | apply pw_below_drewN | apply below_drew1)) hb); replace B5 := Aside0.mk (blk_below (g := b5) (o := .cells #[.slice (some ⟨g, 0, none⟩) 2 2, .slice (some ⟨g + 1, 0, none⟩) 3 3, .int .i64 2, .slice (some ⟨gf, 0, none⟩) 3 cf] 34 (0, 0)) (by (with_reducible repeat (first | exact B5.out | refine blk_drewN ?_ _ | refine blk_drew ?_ | refine blk_alloc ?_ _))) hb); clear x0 x1 x2 x3 lt5; obtain ⟨x0, x1, x2, x3⟩ := cells4 B5.out; have lt5 := blk_lt B5.out; replace HF := Aside0.mk (HF.out.below (below_step (by repeat (first | (with_reducible exact Below.refl _ _) | apply below_alloc | apply pw_below_drewN | apply below_drew1)) hb)); have HTh := Aside0.mk hT; clear hb hT hge) | (go_at_call 26; (with_reducible refine (spans_to14 (l := [0]) ((TM.trial HTh.out).below (by repeat (first | (with_reducible exact Below.refl _ _) | apply below_alloc | apply pw_below_drewN | apply below_drew1))) (InL.one (blk_new _ _)) (by decide) n_sp.2).mono ?_); rintro e w_he ⟨y_h, rfl, hb⟩; replace HB := Aside0.mk (below_step (by repeat (first | (with_reducible exact HB.out) | apply below_alloc | apply pw_below_drewN | apply below_drew1)) hb); replace B5 := Aside0.mk (blk_below (g := b5) (o := .cells #[.slice (some ⟨g, 0, none⟩) 2 2, .slice (some ⟨g + 1, 0, none⟩) 3 3, .int .i64 2, .slice (some ⟨gf, 0, none⟩) 3 cf] 34 (0, 0)) (by (with_reducible repeat (first | exact B5.out | refine blk_drewN ?_ _ | refine blk_drew ?_ | refine blk_alloc ?_ _))) hb); clear x0 x1 x2 x3 lt5; obtain ⟨x0, x1, x2, x3⟩ := cells4 B5.out; have lt5 := blk_lt B5.out; replace HF := Aside0.mk (HF.out.below (below_step (by repeat (first | (with_reducible exact Below.refl _ _) | apply below_alloc | apply pw_below_drewN | apply below_drew1)) hb)); clear hb HTh HGh))
 go_upto_region 13 with (first | (go_at_call 38; (with_reducible refine (conv_to14 (HF.out.below (by repeat (first | (with_reducible exact Below.refl _ _) | apply below_alloc | apply pw_below_drewN | apply below_drew1))) n_cv.2.1).mono ?_); rintro e w_k ⟨Ack, cck, rfl, hcck, hC, hb⟩; replace HB := Aside0.mk (below_step (by repeat (first | (with_reducible exact HB.out) | apply below_alloc | apply pw_below_drewN | apply below_drew1)) hb); replace B5 := Aside0.mk (blk_below (g := b5) (o := .cells #[.slice (some ⟨g, 0, none⟩) 2 2, .slice (some ⟨g + 1, 0, none⟩) 3 3, .int .i64 2, .slice (some ⟨gf, 0, none⟩) 3 cf] 34 (0, 0)) (by (with_reducible repeat (first | exact B5.out | refine blk_drewN ?_ _ | refine blk_drew ?_ | refine blk_alloc ?_ _))) hb); clear x0 x1 x2 x3 lt5; obtain ⟨x0, x1, x2, x3⟩ := cells4 B5.out; have lt5 := blk_lt B5.out; replace HF := Aside0.mk (HF.out.below (below_step (by repeat (first | (with_reducible exact Below.refl _ _) | apply below_alloc | apply pw_below_drewN | apply below_drew1)) hb)); have HCk := Aside0.mk hC; clear hb hC))
 clear x0 x1 x2 x3 lt5 B5 HF HCk
 go_upto_region 14 with (first | (go_at_call 40; (with_reducible refine (trial_at _).mono ?_); rintro e w_i ⟨gi_, rfl, hT, hge, hb⟩; have HGi := Aside0.mk (Nat.le_trans (below_size (by repeat (first | (with_reducible exact HB.out) | apply below_alloc | apply pw_below_drewN | apply below_drew1))) hge); replace HB := Aside0.mk (below_step (by repeat (first | (with_reducible exact HB.out) | apply below_alloc | apply pw_below_drewN | apply below_drew1)) hb); have HTi := Aside0.mk hT; clear hb hT hge) | (go_at_call 32; (with_reducible refine (shifts_to14 ((TM.trial HTi.out).below (by repeat (first | (with_reducible exact Below.refl _ _) | apply below_alloc | apply pw_below_drewN | apply below_drew1))) n_sh.2.1).mono ?_); rintro e w_is ⟨rfl, hb⟩; replace HB := Aside0.mk (below_step (by repeat (first | (with_reducible exact HB.out) | apply below_alloc | apply pw_below_drewN | apply below_drew1)) hb); clear hb))
 clear HTi HGi
 go_upto_region 15 with (first | (go_at_call 40; (with_reducible refine (trial_at _).mono ?_); rintro e w_j ⟨gj, rfl, hT, hge, hb⟩; have HGj := Aside0.mk (Nat.le_trans (below_size (by repeat (first | (with_reducible exact HB.out) | apply below_alloc | apply pw_below_drewN | apply below_drew1))) hge); replace HB := Aside0.mk (below_step (by repeat (first | (with_reducible exact HB.out) | apply below_alloc | apply pw_below_drewN | apply below_drew1)) hb); have HTj := Aside0.mk hT; clear hb hT hge) | (go_at_call 32; (with_reducible refine (shifts_to14 ((TM.trial HTj.out).below (by repeat (first | (with_reducible exact Below.refl _ _) | apply below_alloc | apply pw_below_drewN | apply below_drew1))) n_sh.2.2.1).mono ?_); rintro e w_js ⟨rfl, hb⟩; replace HB := Aside0.mk (below_step (by repeat (first | (with_reducible exact HB.out) | apply below_alloc | apply pw_below_drewN | apply below_drew1)) hb); clear hb))
 clear HTj HGj
 go_upto_region 16 with (first | (go_at_call 40; (with_reducible refine (trial_at _).mono ?_); rintro e w_q ⟨gq, rfl, hT, hge, hb⟩; have HGq := Aside0.mk (Nat.le_trans (below_size (by repeat (first | (with_reducible exact HB.out) | apply below_alloc | apply pw_below_drewN | apply below_drew1))) hge); replace HB := Aside0.mk (below_step (by repeat (first | (with_reducible exact HB.out) | apply below_alloc | apply pw_below_drewN | apply below_drew1)) hb); have HTq := Aside0.mk hT; clear hb hT hge))
 have B14 := Aside0.mk (blk_new w_q (.cells #[.slice (some ⟨gq, 0, none⟩) 2 2, .slice (some ⟨gq + 1, 0, none⟩) 3 3, .int .i64 2, .slice (some ⟨gq + 6, 0, none⟩) 4 4] 34))
 have HT := Aside0.mk (HTq.out.below (below_alloc (Below.refl _ w_q) (.cells #[.slice (some ⟨gq, 0, none⟩) 2 2, .slice (some ⟨gq + 1, 0, none⟩) 3 3, .int .i64 2, .slice (some ⟨gq + 6, 0, none⟩) 4 4] 34)))
 have HSz := Aside0.mk (blk_lt HTq.out.labs)
 replace HB := Aside0.mk (below_alloc HB.out (.cells #[.slice (some ⟨gq, 0, none⟩) 2 2, .slice (some ⟨gq + 1, 0, none⟩) 3 3, .int .i64 2, .slice (some ⟨gq + 6, 0, none⟩) 4 4] 34))
 clear HTq
 generalize w_q.alloc (.cells #[.slice (some ⟨gq, 0, none⟩) 2 2, .slice (some ⟨gq + 1, 0, none⟩) 3 3, .int .i64 2, .slice (some ⟨gq + 6, 0, none⟩) 4 4] 34) = w6 at B14 HT HB ⊢
 generalize w_q.heap.size = b14 at B14 HSz ⊢
 obtain ⟨x0, x1, x2, x3⟩ := cells4 B14.out
 have y5 : w6.cell? ⟨gq + 6, 5, none⟩ = some (.slice (some ⟨gq + 4, 0, none⟩) 3 3) := (blk_cell HT.out.labs 5).trans rfl
 have z1 : w6.cell? ⟨gq + 4, 1, none⟩ = some (.int .i64 133) := (blk_cell HT.out.r2 1).trans rfl
 have z2 := blk_frozen HT.out.r2 1
 go_upto_region 17 with fail
 have hT2 := HT.out.set2 (i := 1) 600
 replace HT := Aside0.mk (show TM (w6.setCell ⟨gq + 4, 1, none⟩ (.int .i64 600)) gq 3 [120, 122, 230] [124, 121, 234] [131, 600, 240] [-1, 118, 229] from hT2)
 replace B14 := Aside0.mk (blk_far (p := ⟨gq + 4, 1, none⟩) B14.out (by have := HSz.out; dsimp only; omega) (.int .i64 600))
 replace HB := Aside0.mk (below_set (g := gq + 4) (j := 1) (v := .int .i64 600) HB.out (by have := HGq.out; omega))
 clear x0 x1 x2 x3 y5 z1 z2 hT2 HSz HGq
 generalize World.setCell w6 ⟨gq + 4, 1, none⟩ (.int .i64 600) = w7 at B14 HT HB ⊢
 obtain ⟨x0, x1, x2, x3⟩ := cells4 B14.out
 have lt14 := blk_lt B14.out
 go_upto_region 18 with (first | (go_at_call 32; (with_reducible refine (shifts_to14 ((TM.wild HT.out).below (by repeat (first | (with_reducible exact Below.refl _ _) | apply below_alloc | apply pw_below_drewN | apply below_drew1))) n_sh.2.2.2).mono ?_); rintro e w_m ⟨rfl, hb⟩; replace HB := Aside0.mk (below_step (by repeat (first | (with_reducible exact HB.out) | apply below_alloc | apply pw_below_drewN | apply below_drew1)) hb); clear hb))
 clear x0 x1 x2 x3 lt14 B14 HT
 go_upto_region 19 with (first | (go_at_call 40; first | (have hh_ := HTr.out; clear hh_; (with_reducible refine (trial_at _).mono ?_); rintro e w_s2 ⟨gs2, rfl, hT, hge, hb⟩; have HLt := Aside0.mk (show gr + 6 < gs2 from Nat.lt_of_lt_of_le (blk_lt HTr.out.labs) hge); have HGs := Aside0.mk (Nat.le_trans (below_size (by repeat (first | (with_reducible exact HB.out) | apply below_alloc | apply pw_below_drewN | apply below_drew1))) hge); replace HB := Aside0.mk (below_step (by repeat (first | (with_reducible exact HB.out) | apply below_alloc | apply pw_below_drewN | apply below_drew1)) hb); replace HTr := Aside0.mk (HTr.out.below hb); have HTs := Aside0.mk hT; clear hb hT hge) | ((with_reducible refine (trial_at _).mono ?_); rintro e w_r ⟨gr, rfl, hT, hge, hb⟩; have HGr := Aside0.mk (Nat.le_trans (below_size (by repeat (first | (with_reducible exact HB.out) | apply below_alloc | apply pw_below_drewN | apply below_drew1))) hge); replace HB := Aside0.mk (below_step (by repeat (first | (with_reducible exact HB.out) | apply below_alloc | apply pw_below_drewN | apply below_drew1)) hb); have HTr := Aside0.mk hT; clear hb hT hge)) | ((with_reducible refine gate_dst (N := 17) rfl ?_); refine box_event ?hg (N := 17) ?hd (cs := #[.slice none 0 0, .slice none 0 0, .int .i64 0, .slice none 0 0]) (t := 34) ?hr ?_; (case hd => rfl); (case hg => rfl); (case hr => first | (go_simp; done) | (go_simp; rfl)); intro g17 hg17 w_17 hbx hb; have B17 := Aside0.mk hbx; have HL17 := Aside0.mk (show gr + 6 < g17 ∧ gs2 + 6 < g17 from ⟨by rw [hg17]; exact blk_lt HTr.out.labs, by rw [hg17]; exact blk_lt HTs.out.labs⟩); have HW17 := Aside0.mk (show W.heap.size ≤ g17 by rw [hg17]; exact below_size HB.out); replace HB := Aside0.mk (below_step HB.out hb); replace HTr := Aside0.mk (HTr.out.below hb); replace HTs := Aside0.mk (HTs.out.below hb); clear hbx hb hg17) | ((with_reducible refine gate_dst (N := 18) rfl ?_); refine box_event ?hg (N := 18) ?hd (cs := #[.slice none 0 0, .slice none 0 0, .int .i64 0, .slice none 0 0]) (t := 34) ?hr ?_; (case hd => rfl); (case hg => rfl); (case hr => first | (go_simp; done) | (go_simp; rfl)); intro g18 hg18 w_18 hbx hb; have B18 := Aside0.mk hbx; have HL18 := Aside0.mk (show g17 < g18 by rw [hg18]; exact blk_lt B17.out); have HW18 := Aside0.mk (show W.heap.size ≤ g18 by rw [hg18]; exact below_size HB.out); replace B17 := Aside0.mk (blk_below (g := g17) (o := .cells #[.slice none 0 0, .slice none 0 0, .int .i64 0, .slice none 0 0] 34 (0, 0)) B17.out hb); replace HB := Aside0.mk (below_step HB.out hb); replace HTr := Aside0.mk (HTr.out.below hb); replace HTs := Aside0.mk (HTs.out.below hb); clear hbx hb hg18; obtain ⟨x0, x1, x2, x3⟩ := cells4 B17.out; have f0 := blk_frozen B17.out 0; have f1 := blk_frozen B17.out 1; have f2 := blk_frozen B17.out 2; have f3 := blk_frozen B17.out 3) | ((with_reducible refine gate_store (t := 34) (p := 17) rfl ?_); refine store_event (t := 34) (p := 17) (v := ?vo17) (w1 := ((((w_18.setCell ⟨g17, 0, none⟩ (.slice (some ⟨gr, 0, none⟩) 2 2)).setCell ⟨g17, 1, none⟩ (.slice (some ⟨gr + 1, 0, none⟩) 3 3)).setCell ⟨g17, 2, none⟩ (.int .i64 2)).setCell ⟨g17, 3, none⟩ (.slice (some ⟨gr + 6, 0, none⟩) 4 4))) ?hg ?ho ?hn ?hr ?_; (case ho => rfl); (case hg => rfl); (case hn => rfl); (case hr => first | (go_simp; done) | (go_simp; rfl)); intro w13 hw; have n1 := Aside0.mk (show w13.heap[g17]? = some (.cells #[.slice (some ⟨gr, 0, none⟩) 2 2, .slice (some ⟨gr + 1, 0, none⟩) 3 3, .int .i64 2, .slice (some ⟨gr + 6, 0, none⟩) 4 4] 34 (0, 0)) by rw [hw]; exact put4n B17.out _ _ _ _); have n2 := Aside0.mk (show w13.heap[g18]? = some (.cells #[.slice none 0 0, .slice none 0 0, .int .i64 0, .slice none 0 0] 34 (0, 0)) by rw [hw]; exact blk_far (blk_far (blk_far (blk_far B18.out (by have := HL18.out; dsimp only; omega) _) (by have := HL18.out; dsimp only; omega) _) (by have := HL18.out; dsimp only; omega) _) (by have := HL18.out; dsimp only; omega) _); have tr := Aside0.mk (show TM w13 gr 3 [120, 122, 230] [124, 121, 234] [131, 133, 240] [-1, 118, 229] by rw [hw]; exact (((HTr.out.far (k := g17) (i := 0) (Or.inr (by have := HL17.out; have := HL18.out; omega)) _).far (k := g17) (i := 1) (Or.inr (by have := HL17.out; have := HL18.out; omega)) _).far (k := g17) (i := 2) (Or.inr (by have := HL17.out; have := HL18.out; omega)) _).far (k := g17) (i := 3) (Or.inr (by have := HL17.out; have := HL18.out; omega)) _); have ts := Aside0.mk (show TM w13 gs2 3 [120, 122, 230] [124, 121, 234] [131, 133, 240] [-1, 118, 229] by rw [hw]; exact (((HTs.out.far (k := g17) (i := 0) (Or.inr (by have := HL17.out; have := HL18.out; omega)) _).far (k := g17) (i := 1) (Or.inr (by have := HL17.out; have := HL18.out; omega)) _).far (k := g17) (i := 2) (Or.inr (by have := HL17.out; have := HL18.out; omega)) _).far (k := g17) (i := 3) (Or.inr (by have := HL17.out; have := HL18.out; omega)) _); have nb := Aside0.mk (show Below W.heap.size W w13 by rw [hw]; exact below_set (below_set (below_set (below_set HB.out HW17.out) HW17.out) HW17.out) HW17.out); clear hw B17 B18 HTr HTs HB x0 x1 x2 x3 f0 f1 f2 f3; have B17 := n1; have B18 := n2; have HTr := tr; have HTs := ts; have HB := nb; clear n1 n2 tr ts nb; obtain ⟨x0, x1, x2, x3⟩ := cells4 B18.out; have f0 := blk_frozen B18.out 0; have f1 := blk_frozen B18.out 1; have f2 := blk_frozen B18.out 2; have f3 := blk_frozen B18.out 3) | ((with_reducible refine gate_store (t := 34) (p := 18) rfl ?_); refine store_event (t := 34) (p := 18) (v := ?vo18) (w1 := ((((w13.setCell ⟨g18, 0, none⟩ (.slice (some ⟨gs2, 0, none⟩) 2 2)).setCell ⟨g18, 1, none⟩ (.slice (some ⟨gs2 + 1, 0, none⟩) 3 3)).setCell ⟨g18, 2, none⟩ (.int .i64 2)).setCell ⟨g18, 3, none⟩ (.slice (some ⟨gs2 + 6, 0, none⟩) 4 4))) ?hg ?ho ?hn ?hr ?_; (case ho => rfl); (case hg => rfl); (case hn => rfl); (case hr => first | (go_simp; done) | (go_simp; rfl)); intro w14 hw; have n1 := Aside0.mk (show w14.heap[g18]? = some (.cells #[.slice (some ⟨gs2, 0, none⟩) 2 2, .slice (some ⟨gs2 + 1, 0, none⟩) 3 3, .int .i64 2, .slice (some ⟨gs2 + 6, 0, none⟩) 4 4] 34 (0, 0)) by rw [hw]; exact put4n B18.out _ _ _ _); have n2 := Aside0.mk (show w14.heap[g17]? = some (.cells #[.slice (some ⟨gr, 0, none⟩) 2 2, .slice (some ⟨gr + 1, 0, none⟩) 3 3, .int .i64 2, .slice (some ⟨gr + 6, 0, none⟩) 4 4] 34 (0, 0)) by rw [hw]; exact blk_far (blk_far (blk_far (blk_far B17.out (by have := HL18.out; dsimp only; omega) _) (by have := HL18.out; dsimp only; omega) _) (by have := HL18.out; dsimp only; omega) _) (by have := HL18.out; dsimp only; omega) _); have tr := Aside0.mk (show TM w14 gr 3 [120, 122, 230] [124, 121, 234] [131, 133, 240] [-1, 118, 229] by rw [hw]; exact (((HTr.out.far (k := g18) (i := 0) (Or.inr (by have := HL17.out; have := HL18.out; omega)) _).far (k := g18) (i := 1) (Or.inr (by have := HL17.out; have := HL18.out; omega)) _).far (k := g18) (i := 2) (Or.inr (by have := HL17.out; have := HL18.out; omega)) _).far (k := g18) (i := 3) (Or.inr (by have := HL17.out; have := HL18.out; omega)) _); have ts := Aside0.mk (show TM w14 gs2 3 [120, 122, 230] [124, 121, 234] [131, 133, 240] [-1, 118, 229] by rw [hw]; exact (((HTs.out.far (k := g18) (i := 0) (Or.inr (by have := HL17.out; have := HL18.out; omega)) _).far (k := g18) (i := 1) (Or.inr (by have := HL17.out; have := HL18.out; omega)) _).far (k := g18) (i := 2) (Or.inr (by have := HL17.out; have := HL18.out; omega)) _).far (k := g18) (i := 3) (Or.inr (by have := HL17.out; have := HL18.out; omega)) _); have nb := Aside0.mk (show Below W.heap.size W w14 by rw [hw]; exact below_set (below_set (below_set (below_set HB.out HW18.out) HW18.out) HW18.out) HW18.out); clear hw B17 B18 HTr HTs HB x0 x1 x2 x3 f0 f1 f2 f3; have B18 := n1; have B17 := n2; have HTr := tr; have HTs := ts; have HB := nb; clear n1 n2 tr ts nb))
 obtain ⟨x0, x1, x2, x3⟩ := cells4 B17.out
 have y5 : w14.cell? ⟨gr + 6, 1, none⟩ = some (.slice (some ⟨gr + 2, 0, none⟩) 3 3) := (blk_cell HTr.out.labs 1).trans rfl
 have z1 : w14.cell? ⟨gr + 2, 0, none⟩ = some (.int .i64 120) := (blk_cell HTr.out.r0 0).trans rfl
 have z2 := blk_frozen HTr.out.r0 0
 go_upto_region 20 with fail
 replace HTr := Aside0.mk (show TM (w14.setCell ⟨gr + 2, 0, none⟩ (.int .i64 1001)) gr 3 [1001, 122, 230] [124, 121, 234] [131, 133, 240] [-1, 118, 229] from HTr.out.set0 (i := 0) 1001)
 replace HTs := Aside0.mk (HTs.out.far (k := gr + 2) (i := 0) (Or.inl (by have := HLt.out; omega)) (.int .i64 1001))
 replace B17 := Aside0.mk (blk_far (p := ⟨gr + 2, 0, none⟩) B17.out (by have := HL17.out; dsimp only; omega) (.int .i64 1001))
 replace B18 := Aside0.mk (blk_far (p := ⟨gr + 2, 0, none⟩) B18.out (by have := HL18.out; have := HL17.out; dsimp only; omega) (.int .i64 1001))
 replace HB := Aside0.mk (below_set (g := gr + 2) (j := 0) (v := .int .i64 1001) HB.out (by have := HGr.out; omega))
 clear x0 x1 x2 x3 y5 z1 z2
 generalize World.setCell w14 ⟨gr + 2, 0, none⟩ (.int .i64 1001) = w15 at HTr HTs B17 B18 HB ⊢
 refine start_ (n := 11) (S := fun w' => w'.cell? ⟨g18, 3, none⟩ = some (.slice (some ⟨gs2 + 6, 0, none⟩) 4 4) ∧ w'.cell? ⟨gs2 + 6, 1, none⟩ = some (.slice (some ⟨gs2 + 2, 0, none⟩) 3 3)) (ds := [10]) #[false, false, false, false, false, false, false, false, false, false, false] (by kernel_rfl) rfl rfl ⟨(blk_cell (blk_drew B18.out) 3).trans rfl, (blk_cell (blk_drew HTs.out.labs) 1).trans rfl⟩ (fun hHeld => ?_)
 refine with_tabW nm.tab20 nm.bits20 (fun HT_ HW_ => ?_)
 replace B17 := Aside0.mk (blk_drew B17.out)
 replace B18 := Aside0.mk (blk_drew B18.out)
 replace HB := Aside0.mk (below_drew1 HB.out)
 replace HTr := Aside0.mk (HTr.out.below (below_drew1 (Below.refl _ _)))
 replace HTs := Aside0.mk (HTs.out.below (below_drew1 (Below.refl _ _)))
 generalize w15.drew = w16 at B17 B18 HB HTr HTs hHeld ⊢
 refine pure_ (i := 0) (N := some 142) (v := ?_) (a' := ?_) #[true, false, false, false, false, false, false, false, false, false, false] rfl rfl (any_of HT_.out (by kernel_rfl)) (fun _ _ _ h => h) (Or.inl ⟨by rfl, ?_⟩) ?_ ?_
 rotate_left
 ·intro w'
  go_simp
  with_reducible rfl
 rotate_left
 ·simp only [Act.put, List.setIfInBounds_toArray, List.set_cons_zero, List.set_cons_succ, i64_w, i32_w]
  rfl
 refine pure_ (i := 2) (N := some 144) (v := ?_) (a' := ?_) #[true, false, true, false, false, false, false, false, false, false, false] rfl rfl (any_of HT_.out (by kernel_rfl)) (fun _ _ _ h => h) (Or.inl ⟨by rfl, ?_⟩) ?_ ?_
 rotate_left
 ·intro w'
  go_simp
  with_reducible rfl
 rotate_left
 ·simp only [Act.put, List.setIfInBounds_toArray, List.set_cons_zero, List.set_cons_succ, i64_w, i32_w]
  rfl
 refine take_ (i := 1) (N := some 143) (v := ?_) (a' := ?_) #[true, true, true, false, false, false, false, false, false, false, false] rfl rfl (take_ofW HT_.out HW_.out (by kernel_rfl)) (fun _ _ _ h => h) (Or.inl ⟨by rfl, ?_⟩) hHeld ?_ ?_
 rotate_left
 ·rintro w' ⟨s0, s1⟩
  go_simp
  with_reducible rfl
 rotate_left
 ·simp only [Act.put, List.setIfInBounds_toArray, List.set_cons_zero, List.set_cons_succ, i64_w, i32_w]
  rfl
 refine take_ (i := 3) (N := some 145) (v := ?_) (a' := ?_) #[true, true, true, true, false, false, false, false, false, false, false] rfl rfl (take_ofW HT_.out HW_.out (by kernel_rfl)) (fun _ _ _ h => h) (Or.inl ⟨by rfl, ?_⟩) hHeld ?_ ?_
 rotate_left
 ·rintro w' ⟨s0, s1⟩
  go_simp
  with_reducible rfl
 rotate_left
 ·simp only [Act.put, List.setIfInBounds_toArray, List.set_cons_zero, List.set_cons_succ, i64_w, i32_w]
  rfl
 refine pure_ (i := 4) (N := some 146) (v := ?_) (a' := ?_) #[true, true, true, true, true, false, false, false, false, false, false] rfl rfl (any_of HT_.out (by kernel_rfl)) (fun _ _ _ h => h) (Or.inl ⟨by rfl, ?_⟩) ?_ ?_
 rotate_left
 ·intro w'
  go_simp
  with_reducible rfl
 rotate_left
 ·simp only [Act.put, List.setIfInBounds_toArray, List.set_cons_zero, List.set_cons_succ, i64_w, i32_w]
  rfl
 refine pure_ (i := 5) (N := some 147) (v := ?_) (a' := ?_) #[true, true, true, true, true, true, false, false, false, false, false] rfl rfl (any_of HT_.out (by kernel_rfl)) (fun _ _ _ h => h) (Or.inl ⟨by rfl, ?_⟩) ?_ ?_
 rotate_left
 ·intro w'
  go_simp
  with_reducible rfl
 rotate_left
 ·simp only [Act.put, List.setIfInBounds_toArray, List.set_cons_zero, List.set_cons_succ, i64_w, i32_w]
  rfl
 refine take_ (i := 6) (N := some 148) (v := ?_) (a' := ?_) #[true, true, true, true, true, true, true, false, false, false, false] rfl rfl (take_ofW HT_.out HW_.out (by kernel_rfl)) (fun _ _ _ h => h) (Or.inl ⟨by rfl, ?_⟩) hHeld ?_ ?_
 rotate_left
 ·rintro w' ⟨s0, s1⟩
  go_simp
  with_reducible rfl
 rotate_left
 ·simp only [Act.put, List.setIfInBounds_toArray, List.set_cons_zero, List.set_cons_succ, i64_w, i32_w]
  rfl
 refine pure_ (i := 7) (N := some 149) (v := ?_) (a' := ?_) #[true, true, true, true, true, true, true, true, false, false, false] rfl rfl (any_of HT_.out (by kernel_rfl)) (fun _ _ _ h => h) (Or.inl ⟨by rfl, ?_⟩) ?_ ?_
 rotate_left
 ·intro w'
  go_simp
  with_reducible rfl
 rotate_left
 ·simp only [Act.put, List.setIfInBounds_toArray, List.set_cons_zero, List.set_cons_succ, i64_w, i32_w]
  rfl
 refine pure_ (i := 8) (N := some 150) (v := ?_) (a' := ?_) #[true, true, true, true, true, true, true, true, true, false, false] rfl rfl (any_of HT_.out (by kernel_rfl)) (fun _ _ _ h => h) (Or.inl ⟨by rfl, ?_⟩) ?_ ?_
 rotate_left
 ·intro w'
  go_simp
  with_reducible rfl
 rotate_left
 ·simp only [Act.put, List.setIfInBounds_toArray, List.set_cons_zero, List.set_cons_succ, i64_w, i32_w]
  rfl
 refine pure_ (i := 9) (N := some 151) (v := ?_) (a' := ?_) #[true, true, true, true, true, true, true, true, true, true, false] rfl rfl (any_of HT_.out (by kernel_rfl)) (fun _ _ _ h => h) (Or.inl ⟨by rfl, ?_⟩) ?_ ?_
 rotate_left
 ·intro w'
  go_simp
  with_reducible rfl
 rotate_left
 ·simp only [Act.put, List.setIfInBounds_toArray, List.set_cons_zero, List.set_cons_succ, i64_w, i32_w]
  rfl
 refine last_ (i := 10) (N := none) #[true, true, true, true, true, true, true, true, true, true, true] rfl rfl (one_of HT_.out (by kernel_rfl)) (by decide) (fun K hK => ?_)
 have hz20 := blk_frozen HTs.out.labs 1
 refine skip_ (w1 := ?_) (by rfl) rfl ?_ ?_
 rotate_left
 ·go_simp
  rfl
 refine hK.out _ _ ?_
 clear hK K
 refine done_ (done_of HT_.out (by kernel_rfl)) ?_
 replace HTs := Aside0.mk (HTs.out.short)
 replace HTr := Aside0.mk (HTr.out.far (k := gs2 + 6) (i := 1) (Or.inr (by have := HLt.out; omega)) (.slice (some ⟨gs2 + 2, 0, none⟩) 2 3))
 replace B17 := Aside0.mk (blk_far (p := ⟨gs2 + 6, 1, none⟩) B17.out (by have := HL17.out; dsimp only; omega) (.slice (some ⟨gs2 + 2, 0, none⟩) 2 3))
 replace B18 := Aside0.mk (blk_far (p := ⟨gs2 + 6, 1, none⟩) B18.out (by have := HL18.out; have := HL17.out; dsimp only; omega) (.slice (some ⟨gs2 + 2, 0, none⟩) 2 3))
 replace HB := Aside0.mk (below_set (g := gs2 + 6) (j := 1) (v := .slice (some ⟨gs2 + 2, 0, none⟩) 2 3) HB.out (by have := HGs.out; omega))
 clear hHeld hz20 HL17 HL18 HLt HGr HGs
 generalize World.setCell w16 ⟨gs2 + 6, 1, none⟩ (.slice (some ⟨gs2 + 2, 0, none⟩) 2 3) = w17 at HTr HTs B17 B18 HB ⊢
 obtain ⟨x0, x1, x2, x3⟩ := cells4 B17.out
 obtain ⟨y0, y1, y2, y3⟩ := cells4 B18.out
 have lt17 := blk_lt B17.out
 have lt18 := blk_lt B18.out
 go_wp2_with (first | (go_at_call 19; (with_reducible refine (check_to14 ((TM.odd HTr.out).below (by repeat (first | (with_reducible exact Below.refl _ _) | apply below_alloc | apply pw_below_drewN | apply below_drew1))) n_ck.1).mono ?_); rintro e w20 ⟨rfl, hb⟩; replace HB := Aside0.mk (below_step (by repeat (first | (with_reducible exact HB.out) | apply below_alloc | apply pw_below_drewN | apply below_drew1)) hb); replace B17 := Aside0.mk (blk_below (g := g17) (o := .cells #[.slice (some ⟨gr, 0, none⟩) 2 2, .slice (some ⟨gr + 1, 0, none⟩) 3 3, .int .i64 2, .slice (some ⟨gr + 6, 0, none⟩) 4 4] 34 (0, 0)) (by (with_reducible repeat (first | exact B17.out | refine blk_drewN ?_ _ | refine blk_drew ?_ | refine blk_alloc ?_ _))) hb); replace B18 := Aside0.mk (blk_below (g := g18) (o := .cells #[.slice (some ⟨gs2, 0, none⟩) 2 2, .slice (some ⟨gs2 + 1, 0, none⟩) 3 3, .int .i64 2, .slice (some ⟨gs2 + 6, 0, none⟩) 4 4] 34 (0, 0)) (by (with_reducible repeat (first | exact B18.out | refine blk_drewN ?_ _ | refine blk_drew ?_ | refine blk_alloc ?_ _))) hb); replace HTr := Aside0.mk (HTr.out.below (below_step (by repeat (first | (with_reducible exact Below.refl _ _) | apply below_alloc | apply pw_below_drewN | apply below_drew1)) hb)); replace HTs := Aside0.mk (HTs.out.below (below_step (by repeat (first | (with_reducible exact Below.refl _ _) | apply below_alloc | apply pw_below_drewN | apply below_drew1)) hb)); clear hb x0 x1 x2 x3 y0 y1 y2 y3 lt17 lt18; obtain ⟨x0, x1, x2, x3⟩ := cells4 B17.out; obtain ⟨y0, y1, y2, y3⟩ := cells4 B18.out; have lt17 := blk_lt B17.out; have lt18 := blk_lt B18.out) | (go_at_call 19; (with_reducible refine (check_to14 ((TM.shorter HTs.out).below (by repeat (first | (with_reducible exact Below.refl _ _) | apply below_alloc | apply pw_below_drewN | apply below_drew1))) n_ck.2.1).mono ?_); rintro e w21 ⟨rfl, hb⟩; replace HB := Aside0.mk (below_step (by repeat (first | (with_reducible exact HB.out) | apply below_alloc | apply pw_below_drewN | apply below_drew1)) hb); replace B17 := Aside0.mk (blk_below (g := g17) (o := .cells #[.slice (some ⟨gr, 0, none⟩) 2 2, .slice (some ⟨gr + 1, 0, none⟩) 3 3, .int .i64 2, .slice (some ⟨gr + 6, 0, none⟩) 4 4] 34 (0, 0)) (by (with_reducible repeat (first | exact B17.out | refine blk_drewN ?_ _ | refine blk_drew ?_ | refine blk_alloc ?_ _))) hb); replace B18 := Aside0.mk (blk_below (g := g18) (o := .cells #[.slice (some ⟨gs2, 0, none⟩) 2 2, .slice (some ⟨gs2 + 1, 0, none⟩) 3 3, .int .i64 2, .slice (some ⟨gs2 + 6, 0, none⟩) 4 4] 34 (0, 0)) (by (with_reducible repeat (first | exact B18.out | refine blk_drewN ?_ _ | refine blk_drew ?_ | refine blk_alloc ?_ _))) hb); replace HTr := Aside0.mk (HTr.out.below (below_step (by repeat (first | (with_reducible exact Below.refl _ _) | apply below_alloc | apply pw_below_drewN | apply below_drew1)) hb)); replace HTs := Aside0.mk (HTs.out.below (below_step (by repeat (first | (with_reducible exact Below.refl _ _) | apply below_alloc | apply pw_below_drewN | apply below_drew1)) hb)); clear hb x0 x1 x2 x3 y0 y1 y2 y3 lt17 lt18; obtain ⟨x0, x1, x2, x3⟩ := cells4 B17.out; obtain ⟨y0, y1, y2, y3⟩ := cells4 B18.out; have lt17 := blk_lt B17.out; have lt18 := blk_lt B18.out) | ((with_reducible refine gate_dst (N := 194) rfl ?_); (try (refine gate_guard (by rfl) ?_; dsimp only)); obtain ⟨i0, hi, hz0, hz1, hz2⟩ := info_parts info46; refine wpList_make_full _ rfl (.const (.int .i64 5)) (.const (.int .i64 5)) 31 rfl 0 46 i0 (.agg #[(.int .i64 0), (.int .i64 0)]) 2 Try.underlying31 hi hz0 hz1 .i64 .i64 5 5 5 rfl rfl rfl rfl (by rw [hz2]; decide) (by decide) (Nat.zero_le _) ?_; intro w24 ho5 hg5; have H5 := Aside0.mk ho5; have hb := below_grown hg5; replace HB := Aside0.mk (below_step (by repeat (first | (with_reducible exact HB.out) | apply below_alloc | apply pw_below_drewN | apply below_drew1)) hb); clear ho5 hg5 hi hz0 hz1 hz2 hb x0 x1 x2 x3 y0 y1 y2 y3 lt17 lt18 B17 B18 HTr HTs) | (go_at_call 19; (with_reducible refine (check_to14 (in34_nil _) n_ck.2.2.1).mono ?_); rintro e w22 ⟨rfl, hb⟩; replace HB := Aside0.mk (below_step (by repeat (first | (with_reducible exact HB.out) | apply below_alloc | apply pw_below_drewN | apply below_drew1)) hb); replace B17 := Aside0.mk (blk_below (g := g17) (o := .cells #[.slice (some ⟨gr, 0, none⟩) 2 2, .slice (some ⟨gr + 1, 0, none⟩) 3 3, .int .i64 2, .slice (some ⟨gr + 6, 0, none⟩) 4 4] 34 (0, 0)) (by (with_reducible repeat (first | exact B17.out | refine blk_drewN ?_ _ | refine blk_drew ?_ | refine blk_alloc ?_ _))) hb); replace B18 := Aside0.mk (blk_below (g := g18) (o := .cells #[.slice (some ⟨gs2, 0, none⟩) 2 2, .slice (some ⟨gs2 + 1, 0, none⟩) 3 3, .int .i64 2, .slice (some ⟨gs2 + 6, 0, none⟩) 4 4] 34 (0, 0)) (by (with_reducible repeat (first | exact B18.out | refine blk_drewN ?_ _ | refine blk_drew ?_ | refine blk_alloc ?_ _))) hb); replace HTr := Aside0.mk (HTr.out.below (below_step (by repeat (first | (with_reducible exact Below.refl _ _) | apply below_alloc | apply pw_below_drewN | apply below_drew1)) hb)); replace HTs := Aside0.mk (HTs.out.below (below_step (by repeat (first | (with_reducible exact Below.refl _ _) | apply below_alloc | apply pw_below_drewN | apply below_drew1)) hb)); clear hb x0 x1 x2 x3 y0 y1 y2 y3 lt17 lt18; obtain ⟨x0, x1, x2, x3⟩ := cells4 B17.out; obtain ⟨y0, y1, y2, y3⟩ := cells4 B18.out; have lt17 := blk_lt B17.out; have lt18 := blk_lt B18.out) | (go_at_call 19; (with_reducible refine (check_to14 (in34_five rfl H5.out) n_ck.2.2.2).mono ?_); rintro e w23 ⟨rfl, hb⟩; replace HB := Aside0.mk (below_step (by repeat (first | (with_reducible exact HB.out) | apply below_alloc | apply pw_below_drewN | apply below_drew1)) hb); clear hb) | (go_at_call 18; (with_reducible refine (wakes_any _).mono ?_); rintro e w30 ⟨rfl, hb⟩; replace HB := Aside0.mk (below_step (by repeat (first | (with_reducible exact HB.out) | apply below_alloc | apply pw_below_drewN | apply below_drew1)) hb); clear hb))
 go_ret
 exact ⟨rfl, HB.out⟩
end Go.Proofs.Ytcpbhklaffgokaa.Q
namespace Go.Proofs.Ytcpbhklaffgokaa.Q
open Go.RowKit
theorem RoundNames_walk (W : World) : Calls Try.prog 14 #[] W fun e W' => e = .returned (.bool true) ∧ Below W.heap.size W W' := names_at W
end Go.Proofs.Ytcpbhklaffgokaa.Q
