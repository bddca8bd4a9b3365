import Derived.Test.YtcpbhklaffgokaaH8
namespace Go.Proofs.Ytcpbhklaffgokaa.Q
open Go.RowKit Go.Proofs.YtcpbhklaffgokaaW.PrintWords Go.Proofs.YtcpbhklaffgokaaW.PrintLast Go.Proofs.YtcpbhklaffgokaaW.PrintMore
set_option linter.unusedVariables false
set_option linter.unusedSimpArgs false
theorem roundOk_of_check {lots : List S46} {samples : List Int} {spread : Int} {labs : List S75} (h : checkRound lots samples spread labs = 0) : RoundOk lots samples spread labs := by
  unfold checkRound at h
  by_cases h1 : 4 < lots.length ∨ 8 < samples.length ∨ 6 < labs.length
  · rw [if_pos h1] at h; cases h
  rw [if_neg h1] at h
  by_cases h2 : lots.length = 0 ∨ (lots.all fun x => lotB x.f0 x.f1) = false ∨ (samples.all (sampB lots.length)) = false ∨ withinB spread 0 100 = false ∨ (labs.all (labB samples.length)) = false
  · rw [if_pos h2] at h; cases h
  simp only [not_or, Bool.not_eq_false] at h1 h2
  obtain ⟨a1, a2, a3⟩ := h1
  obtain ⟨b1, b2, b3, b4, b5⟩ := h2
  rw [List.all_eq_true] at b2 b3 b5
  simp only [withinB, Bool.and_eq_true, decide_eq_true_eq] at b4
  refine ⟨by omega, by omega, by omega, by omega, ?_, ?_, b4.1, b4.2, ?_⟩
  · intro x hx
    have := b2 x hx
    simp only [lotB, Bool.and_eq_true, decide_eq_true_eq] at this
    exact this
  · intro x hx
    have := b3 x hx
    simp only [sampB, withinB, Bool.and_eq_true, decide_eq_true_eq] at this
    omega
  · intro x hx
    have := b5 x hx
    simp only [labB, withinB, Bool.and_eq_true, decide_eq_true_eq, beq_iff_eq, List.all_eq_true] at this
    exact ⟨this.1.1, this.1.2, this.2.1, this.2.2⟩
abbrev rvV (A0 : Option Addr) (c0 : Nat) (lots : List S46) (A1 : Option Addr) (c1 : Nat) (samples : List Int) (spread : Int) (A3 : Option Addr) (c3 : Nat) (labs : List S75) : Value := .agg #[.slice A0 lots.length c0, .slice A1 samples.length c1, .int .i64 spread, .slice A3 labs.length c3]
set_option maxHeartbeats 2000000 in
theorem judge_bad (A0 : Option Addr) (c0 : Nat) (lots : List S46) (A1 : Option Addr) (c1 : Nat) (samples : List Int) (spread : Int) (A3 : Option Addr) (c3 : Nat) (labs : List S75) (w : World)
    (hr0 : Kd.C k46 w A0 lots.length lots) (hr1 : (Kd.int .i64).C w A1 samples.length samples) (hr3 : Kd.C k75 w A3 labs.length labs) (hc : checkRound lots samples spread labs ≠ 0) :
    Calls Try.prog 57 #[.agg #[.slice A0 lots.length c0, .slice A1 samples.length c1, .int .i64 spread, .slice A3 labs.length c3]] w fun e w' => e = .returned (.tuple #[.pointer none, .int .i64 (checkRound lots samples spread labs)]) ∧ Below w.heap.size w w' := by
  have HC := Aside0.mk (check_any A0 c0 lots A1 c1 samples spread A3 c3 labs (w.alloc (.cells #[.slice A0 lots.length c0, .slice A1 samples.length c1, .int .i64 spread, .slice A3 labs.length c3] 34)) (Kd.C_alloc hr0 _) (Kd.C_alloc hr1 _) (Kd.C_alloc hr3 _))
  clear hr0 hr1 hr3
  generalize checkRound lots samples spread labs = c at hc HC ⊢
  have hne : (c != 0) = true := bne_iff_ne.2 hc
  clear hc
  go_enter Try.func57, Try.ntmps57
  go_wp2_with (go_at_call 19; refine Aside0.out ?_)
  refine ⟨?_⟩
  refine HC.out.mono ?_
  rintro e w1 ⟨rfl, hb⟩
  have HB := Aside0.mk (below_step (below_alloc (Below.refl _ _) _) hb)
  clear hb
  go_wp2
  go_ret2
  exact ⟨rfl, HB.out⟩
def JudgePost (w : World) (A0 : Option Addr) (c0 : Nat) (lots : List S46) (A1 : Option Addr) (c1 : Nat) (samples : List Int) (spread : Int) (A3 : Option Addr) (c3 : Nat) (labs : List S75) (e : Ending) (w' : World) : Prop :=
  ∃ jb mb : Nat, e = .returned (.tuple #[.pointer (some ⟨jb, 0, none⟩), .int .i64 0]) ∧ JW w jb mb A0 c0 lots A1 c1 samples spread A3 c3 labs w'
set_option maxHeartbeats 2000000 in
theorem judge_ok (A0 : Option Addr) (c0 : Nat) (lots : List S46) (A1 : Option Addr) (c1 : Nat) (samples : List Int) (spread : Int) (A3 : Option Addr) (c3 : Nat) (labs : List S75) (w : World)
    (hr0 : Kd.C k46 w A0 lots.length lots) (hr1 : (Kd.int .i64).C w A1 samples.length samples) (hr3 : Kd.C k75 w A3 labs.length labs) (hc : checkRound lots samples spread labs = 0) :
    Calls Try.prog 57 #[.agg #[.slice A0 lots.length c0, .slice A1 samples.length c1, .int .i64 spread, .slice A3 labs.length c3]] w (JudgePost w A0 c0 lots A1 c1 samples spread A3 c3 labs) := by
  have HC := check_any A0 c0 lots A1 c1 samples spread A3 c3 labs (w.alloc (.cells #[.slice A0 lots.length c0, .slice A1 samples.length c1, .int .i64 spread, .slice A3 labs.length c3] 34)) (Kd.C_alloc hr0 _) (Kd.C_alloc hr1 _) (Kd.C_alloc hr3 _)
  rw [hc] at HC
  replace HC := Aside0.mk HC
  have BX := Aside0.mk (blk_new w (.cells #[.slice A0 lots.length c0, .slice A1 samples.length c1, .int .i64 spread, .slice A3 labs.length c3] 34))
  have HR := Aside0.mk (And.intro hr0 (And.intro hr1 hr3))
  clear hr0 hr1 hr3 hc
  have hmm := @run_makeMap Try.prog
  go_enter Try.func57, Try.ntmps57
  go_wp2_with (go_at_call 19; refine Aside0.out ?_)
  refine ⟨?_⟩
  refine HC.out.mono ?_
  rintro e w1 ⟨rfl, hb⟩
  have HB := Aside0.mk (below_step (below_alloc (Below.refl _ _) _) hb)
  replace BX := Aside0.mk (blk_below BX.out hb)
  clear hb
  obtain ⟨k0, k1, k2, k3⟩ := cells4 BX.out
  go_wp2
  go_ret2
  refine ⟨w1.heap.size + 1, w1.heap.size, rfl, HR.out.1, HR.out.2.1, HR.out.2.2, below_alloc (below_alloc HB.out _) _, by have := HB.out.size; omega, HB.out.size, ?blk, ⟨#[], 0, ?m, by simp [MapOk]⟩⟩
  case blk => have h := blk_new (w1.alloc (.map #[] 0)) (.cells #[.slice A0 lots.length c0, .slice A1 samples.length c1, .int .i64 spread, .slice A3 labs.length c3, .map (some w1.heap.size)] 107); rw [World.size_alloc] at h; exact h
  case m => exact blk_alloc (blk_new w1 (.map #[] 0)) _

end Go.Proofs.Ytcpbhklaffgokaa.Q
