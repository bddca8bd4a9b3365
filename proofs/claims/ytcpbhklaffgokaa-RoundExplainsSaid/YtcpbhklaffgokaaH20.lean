import Derived.Test.YtcpbhklaffgokaaH19
import Derived.Test.YtcpbhklaffgokaaQ3
namespace Go.Proofs.Ytcpbhklaffgokaa.Q
open Go.RowKit Go.Proofs.YtcpbhklaffgokaaW.PrintWords Go.Proofs.YtcpbhklaffgokaaW.PrintLast Go.Proofs.YtcpbhklaffgokaaW.PrintMore
set_option linter.unusedVariables false
set_option linter.unusedSimpArgs false
def RetB (w : World) (v : Value) (e : Ending) (w' : World) : Prop := e = .returned v ∧ Below w.heap.size w w'
theorem wake_e1 (A0 A1 A3 : Option Addr) (c0 c1 c3 : Nat) (w : World) (hr0 : Kd.C k46 w A0 2 trialLots) (hr1 : (Kd.int .i64).C w A1 3 trialSamples) (hr3 : Kd.C k75 w A3 4 trialLabs) : Calls Try.prog 21 #[.agg #[.slice A0 2 c0, .slice A1 3 c1, .int .i64 2, .slice A3 4 c3], .slice none 0 0] w (RetB w (.tuple #[.bool false, .int .i64 0])) := by
  have h := explains_any A0 c0 trialLots A1 c1 trialSamples 2 A3 c3 trialLabs none 0 [] w hr0 hr1 hr3 (Kd.C_nil _ _) (by decide)
  rw [trial_pure.2.1] at h
  exact h
theorem wake_e2 (A0 A1 A3 : Option Addr) (c0 c1 c3 : Nat) (w : World) (hr0 : Kd.C k46 w A0 2 trialLots) (hr1 : (Kd.int .i64).C w A1 3 trialSamples) (hr3 : Kd.C k75 w A3 4 trialLabs) (g : Nat) (hg : w.heap[g]? = some (.cells #[.int .i64 2] 3 (0, 0))) : Calls Try.prog 21 #[.agg #[.slice A0 2 c0, .slice A1 3 c1, .int .i64 2, .slice A3 4 c3], .slice (some ⟨g, 0, none⟩) 1 1] w (RetB w (.tuple #[.bool true, .int .i64 0])) := by
  have h := explains_any A0 c0 trialLots A1 c1 trialSamples 2 A3 c3 trialLabs (some ⟨g, 0, none⟩) 1 [2] w hr0 hr1 hr3 (C_ints (xs := [2]) hg (by decide)) (by decide)
  rw [trial_pure.2.2.1] at h
  exact h
def WakeS (w : World) (e : Ending) (w' : World) : Prop := ∃ g c : Nat, e = .returned (.tuple #[.slice (some ⟨g, 0, none⟩) 3 c, .int .i64 0]) ∧ (w'.cell? ⟨g, 0, none⟩ = some (.int .i64 121) ∧ w'.cell? ⟨g, 1, none⟩ = some (.int .i64 123) ∧ w'.cell? ⟨g, 2, none⟩ = some (.int .i64 119) ∧ w'.cell? ⟨g, 3, none⟩ = some (.int .i64 123) ∧ w'.cell? ⟨g, 4, none⟩ = some (.int .i64 231) ∧ w'.cell? ⟨g, 5, none⟩ = some (.int .i64 233)) ∧ Below w.heap.size w w'
theorem wake_s (A0 A1 A3 : Option Addr) (c0 c1 c3 : Nat) (w : World) (hr0 : Kd.C k46 w A0 2 trialLots) (hr1 : (Kd.int .i64).C w A1 3 trialSamples) (hr3 : Kd.C k75 w A3 4 trialLabs) (g : Nat) (hg : w.heap[g]? = some (.cells #[.int .i64 2] 3 (0, 0))) : Calls Try.prog 26 #[.agg #[.slice A0 2 c0, .slice A1 3 c1, .int .i64 2, .slice A3 4 c3], .slice (some ⟨g, 0, none⟩) 1 1] w (WakeS w) := by
  have h := Spans_any A0 c0 trialLots A1 c1 trialSamples 2 A3 c3 trialLabs (some ⟨g, 0, none⟩) 1 [2] w hr0 hr1 hr3 (C_ints (xs := [2]) hg (by decide)) (by decide)
  rw [trial_pure.2.2.2.1] at h
  refine h.mono ?_
  rintro e w' ⟨v, rfl, hv, hb⟩
  obtain ⟨g1, cap, rfl, _⟩ := Kd.R_form hv (by decide)
  have hC := (Kd.R_reads' hv).2.2
  obtain ⟨ad, e0, a0, a1⟩ := at_T46 hC 0 (by decide) (by decide)
  obtain ⟨ad1, e1, b0, b1⟩ := at_T46 hC 1 (by decide) (by decide)
  obtain ⟨ad2, e2, d0, d1⟩ := at_T46 hC 2 (by decide) (by decide)
  cases e0
  cases e1
  cases e2
  exact ⟨g1, cap, rfl, ⟨a0, a1, b0, b1, d0, d1⟩, hb⟩
def WakeL (w : World) (e : Ending) (w' : World) : Prop := ∃ g c : Nat, 1 ≤ c ∧ e = .returned (.tuple #[.slice (some ⟨g, 0, none⟩) 1 c, .int .i64 0]) ∧ (Kd.int .i64).C w' (some ⟨g, 0, none⟩) 1 [2] ∧ Below w.heap.size w w'
set_option maxRecDepth 100000 in
theorem trial_few : 0 < (fewestF trialLots trialSamples 2 trialLabs).length := of_decide_eq_true (by kernel_rfl)
theorem wake_l (A0 A1 A3 : Option Addr) (c0 c1 c3 : Nat) (w : World) (hr0 : Kd.C k46 w A0 2 trialLots) (hr1 : (Kd.int .i64).C w A1 3 trialSamples) (hr3 : Kd.C k75 w A3 4 trialLabs) : Calls Try.prog 29 #[.agg #[.slice A0 2 c0, .slice A1 3 c1, .int .i64 2, .slice A3 4 c3]] w (WakeL w) := by
  have h := Least_any A0 c0 trialLots A1 c1 trialSamples 2 A3 c3 trialLabs w hr0 hr1 hr3 (fun _ => trial_few)
  rw [trial_pure.2.2.2.2] at h
  refine h.mono ?_
  rintro e w' ⟨v, rfl, hv, hb⟩
  obtain ⟨g1, cap, rfl, _⟩ := Kd.R_form hv (by decide)
  exact ⟨g1, cap, (Kd.R_reads' hv).2.1, rfl, (Kd.R_reads' hv).2.2, hb⟩
theorem wake_h (A0 A1 A3 : Option Addr) (c0 c1 c3 : Nat) (w : World) (hr0 : Kd.C k46 w A0 2 trialLots) (hr1 : (Kd.int .i64).C w A1 3 trialSamples) (hr3 : Kd.C k75 w A3 4 trialLabs) : Calls Try.prog 32 #[.agg #[.slice A0 2 c0, .slice A1 3 c1, .int .i64 2, .slice A3 4 c3], .int .i64 2] w (RetB w (.tuple #[.agg #[.int .i64 8, .int .i64 11], .int .i64 0])) := by
  have h := shifts_any A0 c0 trialLots A1 c1 trialSamples 2 A3 c3 trialLabs 2 w hr0 hr1 hr3
  rw [trial_shifts] at h
  exact h
theorem wake_i (g g1 c : Nat) (w : World) (hc : 1 ≤ c) (h0 : (Kd.int .i64).C w (some ⟨g, 0, none⟩) 1 [2]) (h1 : w.heap[g1]? = some (.cells #[.int .i64 2] 3 (0, 0))) :
    Calls Try.prog 30 #[.slice (some ⟨g, 0, none⟩) 1 c, .slice (some ⟨g1, 0, none⟩) 1 1] w fun e w' => e = .returned (.bool true) ∧ Drawn0 w w' :=
  tensilelaw08_ints.calls 5 _ c [2] _ 1 [2] true w h0 hc (C_ints (xs := [2]) h1 (by decide)) (by decide) (by kernel_rfl)
set_option maxHeartbeats 4000000 in
set_option maxRecDepth 100000 in
theorem wakes_any (w : World) : Calls Try.prog 18 #[] w (RetB w (.bool true)) := by
  have HB := Aside0.mk (Below.refl w.heap.size w)
  go_enter Try.func18, Try.ntmps18
  go_wp2_with (first | (go_at_call 40; (with_reducible refine (trial_any _).mono ?_); rintro e wa ⟨A0, A1, A3, c0, c1, c3, rfl, ha0, ha1, ha3, hb⟩; replace ha0 := Aside0.mk ha0; replace ha1 := Aside0.mk ha1; replace ha3 := Aside0.mk ha3; replace HB := Aside0.mk (below_step HB.out hb); clear hb) | (go_at_call 21; first | ((with_reducible refine (wake_e1 A0 A1 A3 c0 c1 c3 _ ha0.out ha1.out ha3.out).mono ?_); rintro e wb ⟨rfl, hb⟩; replace HB := Aside0.mk (below_step HB.out hb); clear hb ha0 ha1 ha3) | ((with_reducible refine (wake_e2 A0 A1 A3 c0 c1 c3 _ (Kd.C_alloc ha0.out _) (Kd.C_alloc ha1.out _) (Kd.C_alloc ha3.out _) _ (blk_new _ _)).mono ?_); rintro e wb ⟨rfl, hb⟩; replace HB := Aside0.mk (below_step (below_alloc HB.out _) hb); clear hb ha0 ha1 ha3)) | (go_at_call 26; refine Aside0.out ?_))
  refine ⟨?_⟩
  refine (wake_s A0 A1 A3 c0 c1 c3 _ (Kd.C_alloc ha0.out _) (Kd.C_alloc ha1.out _) (Kd.C_alloc ha3.out _) _ (blk_new _ _)).mono ?_
  rintro e wd ⟨gs, cs, rfl, hs, hb⟩
  replace HB := Aside0.mk (below_step (below_alloc HB.out _) hb)
  replace hs := Aside0.mk hs
  clear hb ha0 ha1 ha3
  have HM := Aside0.mk (fun (w' : World) (h : Below wd.heap.size wd w') => (⟨(h.cell (World.block_lt_of_cell? _ _ hs.out.1)).trans hs.out.1, (h.cell (World.block_lt_of_cell? _ _ hs.out.2.1)).trans hs.out.2.1, (h.cell (World.block_lt_of_cell? _ _ hs.out.2.2.1)).trans hs.out.2.2.1, (h.cell (World.block_lt_of_cell? _ _ hs.out.2.2.2.1)).trans hs.out.2.2.2.1, (h.cell (World.block_lt_of_cell? _ _ hs.out.2.2.2.2.1)).trans hs.out.2.2.2.2.1, (h.cell (World.block_lt_of_cell? _ _ hs.out.2.2.2.2.2)).trans hs.out.2.2.2.2.2⟩ : w'.cell? ⟨gs, 0, none⟩ = some (.int .i64 121) ∧ w'.cell? ⟨gs, 1, none⟩ = some (.int .i64 123) ∧ w'.cell? ⟨gs, 2, none⟩ = some (.int .i64 119) ∧ w'.cell? ⟨gs, 3, none⟩ = some (.int .i64 123) ∧ w'.cell? ⟨gs, 4, none⟩ = some (.int .i64 231) ∧ w'.cell? ⟨gs, 5, none⟩ = some (.int .i64 233)))
  have HD := Aside0.mk (Below.refl wd.heap.size wd)
  go_wp2_with (first | (go_at_call 40; (with_reducible refine (trial_any _).mono ?_); rintro e wa ⟨A0, A1, A3, c0, c1, c3, rfl, ha0, ha1, ha3, hb⟩; replace ha0 := Aside0.mk ha0; replace ha1 := Aside0.mk ha1; replace ha3 := Aside0.mk ha3; replace HD := Aside0.mk (below_step HD.out hb); (try replace HL := Aside0.mk (below_step HL.out hb)); clear hb) | (go_at_call 29; (with_reducible refine (wake_l A0 A1 A3 c0 c1 c3 _ ha0.out ha1.out ha3.out).mono ?_); rintro e we ⟨gl, cl, hcl, rfl, hl, hb⟩; replace HD := Aside0.mk (below_step HD.out hb); replace hl := Aside0.mk hl; replace hcl := Aside0.mk hcl; have HL := Aside0.mk (Below.refl we.heap.size we); clear hb ha0 ha1 ha3) | (go_at_call 32; refine Aside0.out ?_))
  refine ⟨?_⟩
  refine (wake_h A0 A1 A3 c0 c1 c3 _ ha0.out ha1.out ha3.out).mono ?_
  rintro e wf ⟨rfl, hb⟩
  replace HL := Aside0.mk (Kd.C_below hl.out (below_alloc (below_step HL.out hb) (.cells #[.int .i64 8, .int .i64 11] 46)))
  replace HD := Aside0.mk (below_alloc (below_step HD.out hb) (.cells #[.int .i64 8, .int .i64 11] 46))
  have HBF := Aside0.mk (below_step HB.out HD.out)
  have B9 := Aside0.mk (blk_new wf (.cells #[.int .i64 8, .int .i64 11] 46))
  obtain ⟨s0, s1, s2, s3, s4, s5⟩ := HM.out _ HD.out
  have hcl1 := hcl.out
  clear hb ha0 ha1 ha3 hs HM HB HD hl hcl
  go_wp2_with fail
  refine (wake_i gl (wf.heap.size + 1) cl _ hcl1 (Kd.C_alloc HL.out _) (blk_new' (by simp))).mono ?_
  replace B9 := Aside0.mk (blk_alloc B9.out (.cells #[.int .i64 2] 3))
  replace HBF := Aside0.mk (below_alloc HBF.out (.cells #[.int .i64 2] 3))
  clear s0 s1 s2 s3 s4 s5 HL hcl1
  generalize (wf.alloc (.cells #[.int .i64 8, .int .i64 11] 46)).alloc (.cells #[.int .i64 2] 3) = wg at B9 HBF ⊢
  rintro e wh ⟨rfl, hd⟩
  have hbd := hd.below
  replace B9 := Aside0.mk (blk_below B9.out hbd)
  replace HBF := Aside0.mk (below_step HBF.out hbd)
  clear hd hbd
  obtain ⟨q0, q1⟩ := cells2 B9.out
  go_wp2
  go_ret
  exact ⟨rfl, HBF.out⟩
end Go.Proofs.Ytcpbhklaffgokaa.Q
