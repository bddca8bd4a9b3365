import Derived.Test.YtcpbhklaffgokaaH16
namespace Go.Proofs.Ytcpbhklaffgokaa.Q
open Go.RowKit Go.Proofs.YtcpbhklaffgokaaW.PrintWords Go.Proofs.YtcpbhklaffgokaaW.PrintLast Go.Proofs.YtcpbhklaffgokaaW.PrintMore
set_option linter.unusedVariables false
set_option linter.unusedSimpArgs false
def leastF (lots : List S46) (samples : List Int) (spread : Int) (labs : List S75) : List Int × Int :=
  if checkRound lots samples spread labs = 0 then ((fewestF lots samples spread labs).getD 0 [], 0) else ([], checkRound lots samples spread labs)
/-- a list and an error -/
def LPost (w : World) (r : List Int × Int) (e : Ending) (w' : World) : Prop :=
  ∃ v, e = .returned (.tuple #[v, .int .i64 r.2]) ∧ Kd.R (Kd.int .i64) 3 w' w.heap.size (fun _ => True) v r.1 ∧ Below w.heap.size w w'
/-- the first list -/
theorem first_list {W : World} {base : Nat} {v : Value} {xs : List (List Int)} (h : Kd.R kll 23 W base (fun _ => True) v xs) (hp : 0 < xs.length) :
    ∃ g n c u, v = .slice (some ⟨g, 0, none⟩) n c ∧ 0 < n ∧ n = xs.length ∧ W.cell? ⟨g, 0, none⟩ = some u ∧ Kd.R (Kd.int .i64) 3 W base (fun _ => True) u (xs.getD 0 []) := by
  obtain ⟨g, cap, rfl, _⟩ := Kd.R_form h hp
  obtain ⟨c, hc, hM, hcell, _⟩ := Kd.R_elem h [] 0 (by omega) (by omega)
  obtain ⟨u, rfl, hu⟩ := hM
  refine ⟨g, _, cap, u, rfl, hp, rfl, ?_, ?_⟩
  · have := hcell 0 u rfl
    simpa using this
  · have := Kd.R_mono hu (fun _ _ => trivial)
    simpa using this
set_option maxHeartbeats 4000000 in
set_option maxRecDepth 100000 in
theorem Least_any (A0 : Option Addr) (c0 : Nat) (lots : List S46) (A1 : Option Addr) (c1 : Nat) (samples : List Int) (spread : Int) (A3 : Option Addr) (c3 : Nat) (labs : List S75) (w : World) (hr0 : Kd.C k46 w A0 lots.length lots) (hr1 : (Kd.int .i64).C w A1 samples.length samples) (hr3 : Kd.C k75 w A3 labs.length labs) (hne : checkRound lots samples spread labs = 0 → 0 < (fewestF lots samples spread labs).length) :
    Calls Try.prog 29 #[.agg #[.slice A0 lots.length c0, .slice A1 samples.length c1, .int .i64 spread, .slice A3 labs.length c3]] w (LPost w (leastF lots samples spread labs)) := by
  by_cases hc : checkRound lots samples spread labs = 0
  · have HX : leastF lots samples spread labs = ((fewestF lots samples spread labs).getD 0 [], 0) := by unfold leastF; rw [if_pos hc]
    rw [HX]
    have HN := Aside0.mk (hne hc)
    have HC := Aside0.mk (judge_ok A0 c0 lots A1 c1 samples spread A3 c3 labs (w.alloc (.cells #[.slice A0 lots.length c0, .slice A1 samples.length c1, .int .i64 spread, .slice A3 labs.length c3] 34)) (Kd.C_alloc hr0 _) (Kd.C_alloc hr1 _) (Kd.C_alloc hr3 _) hc)
    have HB0 := Aside0.mk (below_alloc (Below.refl _ w) (.cells #[.slice A0 lots.length c0, .slice A1 samples.length c1, .int .i64 spread, .slice A3 labs.length c3] 34))
    have hok := Aside0.mk (roundOk_of_check hc)
    clear HX hr0 hr1 hr3 hc hne
    go_enter Try.func29, Try.ntmps29
    go_wp2_with (go_at_call 57; refine Aside0.out ?_)
    refine ⟨?_⟩
    refine HC.out.mono ?_
    clear HC
    rintro e w1 ⟨jb, mb, rfl, hj⟩
    have HF := Aside0.mk (fewest_any _ jb mb A0 c0 lots A1 c1 samples spread A3 c3 labs w1 hj hok.out)
    clear hj
    go_wp2_with (go_at_call 58; refine Aside0.out ?_)
    refine ⟨?_⟩
    refine HF.out.mono ?_
    clear HF
    rintro e w2 ⟨v, rfl, hj2, hr2⟩
    obtain ⟨g, n, c, u, rfl, hn, _, hcell, hu⟩ := first_list hr2 HN.out
    have HFin : Aside0 (LPost w ((fewestF lots samples spread labs).getD 0 [], 0) (.returned (.tuple #[u, .int .i64 0])) w2) := ⟨u, rfl, Kd.R_lower hu (by simp), below_step HB0.out hj2.hb⟩
    clear hr2 hj2 hu
    go_wp2
    go_ret2
    exact HFin.out
  · have HX : leastF lots samples spread labs = ([], checkRound lots samples spread labs) := by unfold leastF; rw [if_neg hc]
    rw [HX]
    have HC := Aside0.mk (judge_bad A0 c0 lots A1 c1 samples spread A3 c3 labs (w.alloc (.cells #[.slice A0 lots.length c0, .slice A1 samples.length c1, .int .i64 spread, .slice A3 labs.length c3] 34)) (Kd.C_alloc hr0 _) (Kd.C_alloc hr1 _) (Kd.C_alloc hr3 _) hc)
    have HB0 := Aside0.mk (below_alloc (Below.refl _ w) (.cells #[.slice A0 lots.length c0, .slice A1 samples.length c1, .int .i64 spread, .slice A3 labs.length c3] 34))
    clear HX hr0 hr1 hr3 hne
    generalize checkRound lots samples spread labs = c at hc HC ⊢
    have hne : (c != 0) = true := bne_iff_ne.2 hc
    clear hc
    go_enter Try.func29, Try.ntmps29
    go_wp2_with (go_at_call 57; refine Aside0.out ?_)
    refine ⟨?_⟩
    refine HC.out.mono ?_
    clear HC
    rintro e w1 ⟨rfl, hb⟩
    replace HB0 := Aside0.mk (below_step HB0.out hb)
    clear hb
    go_wp2
    go_ret2
    exact ⟨_, rfl, Kd.R_nil _ _ _ _ _, HB0.out⟩
end Go.Proofs.Ytcpbhklaffgokaa.Q
