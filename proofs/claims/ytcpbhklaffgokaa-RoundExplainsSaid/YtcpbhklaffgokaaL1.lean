import Derived.Test.YtcpbhklaffgokaaP5
import Derived.Test.YtcpbhklaffgokaaQ8
import Derived.Test.YtcpbhklaffgokaaR1
namespace Go.Proofs.Ytcpbhklaffgokaa.Q
open Go.RowKit Go.Proofs.YtcpbhklaffgokaaW.PrintWords Go.Proofs.YtcpbhklaffgokaaW.PrintLast Go.Proofs.YtcpbhklaffgokaaW.PrintMore
set_option linter.unusedVariables false
set_option linter.unusedSimpArgs false
theorem CheckRound_eq (a : List S46) (b : List Int) (c : Int) (d : List S75) : round_CheckRound.f a b c d = some (checkRound a b c d) := rfl
theorem Explains_eq (a : List S46) (b : List Int) (c : Int) (d : List S75) (l : List Int) (h : l.length < 17592186044416) : round_Explains.f a b c d l = some (explainsF a b c d l) := by unfold round_Explains.f; rw [if_pos h]
theorem RoundExplains_pure (lots : List S44) (samples : List Int) (spread : Int) (labs : List S62) (off : List Int) (hs : Sz lots samples labs) (ho : off.length ≤ 9223372036854775807) : ∃ k, tensilelaw08_RoundExplains.f k lots samples spread labs off = some true := by
  refine Ev_rounds (g := fun k => tensilelaw08_RoundExplains.f k lots samples spread labs off) ?_
  unfold tensilelaw08_RoundExplains.f
  obtain ⟨b, hb, ht⟩ := Few_ev lots samples spread labs hs
  have hwake : Ev (fun k => tensilelaw08_RoundExplains.j0 k off true lots samples spread labs) true := Ev.step (fun k => by simp only [tensilelaw08_RoundExplains.j0]; rw [if_pos trivial, wakes_eq, Option.bind_some]) (Ev.now _)
  refine Ev.bind hb ?_
  cases b with
  | false => exact Ev.congr (fun k => by rw [if_neg (by decide)]) hwake
  | true =>
    refine Ev.congr (fun k => by rw [if_pos rfl]) ?_
    by_cases h10 : off.length ≤ 10
    · rw [decide_eq_false (by omega)]
      have hr := Round_ev lots samples spread labs (ht rfl)
      have hf := fault_ev lots samples spread labs hs
      refine Ev.step (fun k => by simp only [tensilelaw08_RoundExplains.j0]; rw [if_neg (by decide)]) ?_
      refine Ev.bind hr ?_
      refine Ev.congr (fun k => by rw [CheckRound_eq, Option.bind_some]) ?_
      refine Ev.bind hr ?_
      refine Ev.congr (fun k => by rw [list_eq _ (by omega), Option.bind_some, Explains_eq _ _ _ _ _ (by omega), Option.bind_some]) ?_
      refine Ev.bind hf ?_
      refine Ev.congr (fun k => by rw [if_pos rfl]) ?_
      simp only
      by_cases hc : checkRound (lots.map m46) samples spread (labs.map m75) = 0
      · have hok := roundOk_of_check hc
        have he : askedE (lots.map m46) samples spread (labs.map m75) off = if risingB labs.length off = true then 0 else 2 := by
          unfold askedE
          rw [if_neg (by rw [hc]; decide), List.length_map]
        refine Ev.congr (fun k => by rw [if_pos hc]) ?_
        unfold tensileref08_Rising.f
        simp only [Option.bind_some]
        by_cases hrs : risingB labs.length off = true
        · have hx : explainsF (lots.map m46) samples spread (labs.map m75) off = (canF (lots.map m46) samples spread (labs.map m75) (offOf off), 0) := by
            unfold explainsF
            rw [he, if_pos hrs, if_pos rfl]
          rw [hx, hrs, hc]
          refine Ev.step (fun k => by simp only [tensilelaw08_RoundExplains.j1]; rw [if_neg (by decide)]) ?_
          refine Ev.step (fun k => by simp only [tensilelaw08_RoundExplains.j2]; rw [if_pos trivial, if_pos trivial]) ?_
          refine Ev.bind (Explains_ev lots samples spread labs off ho hok) ?_
          refine Ev.congr (fun k => by rw [if_pos (by simp), wakes_eq, Option.bind_some]) (Ev.now _)
        · have hx : explainsF (lots.map m46) samples spread (labs.map m75) off = (false, 2) := by
            unfold explainsF
            rw [he, if_neg hrs, if_neg (by decide)]
          have hrs2 : risingB labs.length off = false := by simpa using hrs
          rw [hx, hrs2, hc]
          refine Ev.step (fun k => by simp only [tensilelaw08_RoundExplains.j1]; rw [if_pos (by decide)]) ?_
          refine Ev.step (fun k => by simp only [tensilelaw08_RoundExplains.j2]; rw [if_neg (by decide), if_pos trivial, if_neg (by decide), wakes_eq, Option.bind_some]) (Ev.now _)
      · have hx : explainsF (lots.map m46) samples spread (labs.map m75) off = (false, checkRound (lots.map m46) samples spread (labs.map m75)) := by
          unfold explainsF askedE
          rw [if_pos hc, if_neg hc]
        rw [hx]
        refine Ev.congr (fun k => by rw [if_neg hc]) ?_
        refine Ev.step (fun k => by simp only [tensilelaw08_RoundExplains.j1]; rw [if_neg (by decide)]) ?_
        refine Ev.step (fun k => by simp only [tensilelaw08_RoundExplains.j2]; rw [if_neg hc, if_pos trivial, if_neg (by decide), wakes_eq, Option.bind_some]) (Ev.now _)
    · rw [decide_eq_true (by omega)]
      exact hwake
end Go.Proofs.Ytcpbhklaffgokaa.Q
namespace Go.Proofs.Ytcpbhklaffgokaa.Q
open Go.RowKit Go.Proofs.YtcpbhklaffgokaaW.PrintWords Go.Proofs.YtcpbhklaffgokaaW.PrintLast Go.Proofs.YtcpbhklaffgokaaW.PrintMore
set_option linter.unusedVariables false
theorem RoundExplains_walk (A0 : Option Addr) (c0 : Nat) (lots : List S44) (A1 : Option Addr) (c1 : Nat) (samples : List Int) (spread : Int) (A3 : Option Addr) (c3 : Nat) (labs : List S62) (B : Option Addr) (cB : Nat) (l : List Int) (W : World) {v : Value} (hi : In26 W v A0 c0 lots A1 c1 samples spread A3 c3 labs)
    (hC : (Kd.int .i64).C W B l.length l) (hc : l.length ≤ cB) (hm : l.length ≤ 9223372036854775807) (hw : ∀ x ∈ l, (Lit.int .i64 x).wf = true) :
    Calls Try.prog 3 #[.agg #[.slice A0 lots.length c0, .slice A1 samples.length c1, .int .i64 spread, .slice A3 labs.length c3], .slice B l.length cB] W fun e W' => e = .returned (.bool true) ∧ Below W.heap.size W W' := by
  obtain ⟨k, h⟩ := RoundExplains_pure lots samples spread labs l ⟨hi.a, hi.b, hi.c, hi.d⟩ hm
  exact tensilelaw08_RoundExplains.calls k A0 c0 lots A1 c1 samples spread A3 c3 labs B cB l true W hi.r0 hi.h0 hi.r1 hi.h1 hi.r3 hi.h3 hC hc h
end Go.Proofs.Ytcpbhklaffgokaa.Q
