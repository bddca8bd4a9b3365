import Derived.Test.YtcpbhklaffgokaaH18
namespace Go.Proofs.Ytcpbhklaffgokaa.Q
open Go.RowKit Go.Proofs.YtcpbhklaffgokaaW.PrintWords Go.Proofs.YtcpbhklaffgokaaW.PrintLast Go.Proofs.YtcpbhklaffgokaaW.PrintMore
set_option linter.unusedVariables false
set_option linter.unusedSimpArgs false
theorem C_blk {α : Type} {d : Kd α} {W : World} {g : Nat} {cs : Array Value} {t : TypeId} {xs : List α} (hb : W.heap[g]? = some (.cells cs t (0, 0))) (hl : xs.length ≤ 1000) (f : Nat → List Value)
    (hf : ∀ j p, xs[j]? = some p → (f j).length = d.sz ∧ d.K W p (f j) ∧ ∀ i u, (f j)[i]? = some u → cs[j * d.sz + i]? = some u) : d.C W (some ⟨g, 0, none⟩) xs.length xs := by
  refine ⟨rfl, by omega, fun _ => ⟨_, rfl, fun j p hj => ?_⟩⟩
  obtain ⟨h1, h2, h3⟩ := hf j p hj
  refine ⟨f j, h1, h2, fun i u hu => ?_⟩
  have := blk_cell hb (j * d.sz + i)
  rw [show (⟨g, 0, none⟩ : Addr).add (j * d.sz + i) = ⟨g, j * d.sz + i, none⟩ by unfold Addr.add; split <;> simp_all]
  rw [this]
  exact h3 i u hu
theorem C_ints {W : World} {g : Nat} {t : TypeId} {xs : List Int} (hb : W.heap[g]? = some (.cells (encs (Value.int .i64) xs).toArray t (0, 0))) (hl : xs.length ≤ 1000) : (Kd.int .i64).C W (some ⟨g, 0, none⟩) xs.length xs := by
  refine C_blk hb hl (fun j => [.int .i64 (xs.getD j 0)]) (fun j p hj => ?_)
  have hp : xs.getD j 0 = p := by rw [List.getD_eq_getElem?_getD, hj]; rfl
  rw [hp]
  refine ⟨rfl, rfl, fun i u hu => ?_⟩
  match i, hu with
  | 0, hu =>
    simp at hu
    subst hu
    show (encs (Value.int .i64) xs).toArray[j * 1 + 0]? = _
    simp [encs, hj]
def trialLots : List S46 := [{ f0 := 100, f1 := 140 }, { f0 := 200, f1 := 260 }]
def trialSamples : List Int := [0, 0, 1]
def trialLabs : List S75 := [{ f0 := 3, f1 := [120, 122, 230] }, { f0 := 3, f1 := [124, 121, 234] }, { f0 := 2, f1 := [131, 133, 240] }, { f0 := 5, f1 := [-1, 118, 229] }]
set_option maxRecDepth 100000 in
theorem trial_pure : checkRound trialLots trialSamples 2 trialLabs = 0 ∧ explainsF trialLots trialSamples 2 trialLabs [] = (false, 0) ∧ explainsF trialLots trialSamples 2 trialLabs [2] = (true, 0) ∧ spansR trialLots trialSamples 2 trialLabs [2] = ([{ f0 := 121, f1 := 123 }, { f0 := 119, f1 := 123 }, { f0 := 231, f1 := 233 }], 0) ∧ leastF trialLots trialSamples 2 trialLabs = ([2], 0) := by
  refine ⟨?_, ?_, ?_, ?_, ?_⟩ <;> kernel_rfl
theorem blk_new' {w : World} {o : Obj} {n : Nat} (h : w.heap.size = n) : (w.alloc o).heap[n]? = some o := h ▸ blk_new w o
theorem C_46 {W : World} {g : Nat} {t : TypeId} {xs : List S46} (hb : W.heap[g]? = some (.cells (xs.flatMap fun x => [.int .i64 x.f0, .int .i64 x.f1]).toArray t (0, 0))) (hl : xs.length ≤ 1000) : Kd.C k46 W (some ⟨g, 0, none⟩) xs.length xs := by
  refine C_blk hb hl (fun j => [.int .i64 (xs.getD j z46).f0, .int .i64 (xs.getD j z46).f1]) (fun j p hj => ?_)
  have hp : xs.getD j z46 = p := by rw [List.getD_eq_getElem?_getD, hj]; rfl
  rw [hp]
  refine ⟨rfl, k46_mk _ _, fun i u hu => ?_⟩
  have key : ∀ (ys : List S46) (j : Nat), ys[j]? = some p → ∀ i u, ([.int .i64 p.f0, .int .i64 p.f1] : List Value)[i]? = some u → (ys.flatMap fun x => [Value.int .i64 x.f0, .int .i64 x.f1])[j * 2 + i]? = some u := by
    intro ys
    induction ys with
    | nil => intro j h; cases h
    | cons y ys ih =>
      intro j h i u hu
      cases j with
      | zero =>
        simp at h
        subst h
        match i, hu with
        | 0, hu => simpa using hu
        | 1, hu => simpa using hu
      | succ j =>
        simp at h
        have := ih j h i u hu
        simp only [List.flatMap_cons]
        rw [show (j + 1) * 2 + i = (j * 2 + i) + 2 by omega]
        simpa using this
  show (xs.flatMap fun x => [Value.int .i64 x.f0, .int .i64 x.f1]).toArray[j * 2 + i]? = some u
  simpa using key xs j hj i u hu
set_option maxRecDepth 100000 in
theorem trial_shifts : shiftsF trialLots trialSamples 2 trialLabs 2 = ({ f0 := 8, f1 := 11 }, 0) := by kernel_rfl
def TrialPost (w : World) (e : Ending) (w' : World) : Prop := ∃ (A0 A1 A3 : Option Addr) (c0 c1 c3 : Nat), e = .returned (.agg #[.slice A0 2 c0, .slice A1 3 c1, .int .i64 2, .slice A3 4 c3]) ∧ Kd.C k46 w' A0 2 trialLots ∧ (Kd.int .i64).C w' A1 3 trialSamples ∧ Kd.C k75 w' A3 4 trialLabs ∧ Below w.heap.size w w'
set_option maxHeartbeats 4000000 in
set_option maxRecDepth 100000 in
theorem trial_any (w : World) : Calls Try.prog 40 #[] w (TrialPost w) := by
  go_enter Try.func40, Try.ntmps40
  go_wp2
  refine bodyPost_ret (results_single rfl (.cell w.heap.size 34 _ (0, 0) _ rfl (by repeat (first | exact blk_new' (by simp) | refine blk_alloc ?_ _)) rfl rfl rfl .nil)) rfl ?_
  refine ⟨_, _, _, _, _, _, rfl, ?_, ?_, ?_, ?_⟩
  · exact C_46 (xs := trialLots) (by repeat (first | exact blk_new' (by simp) | refine blk_alloc ?_ _)) (by decide)
  · exact C_ints (xs := trialSamples) (by repeat (first | exact blk_new' (by simp) | refine blk_alloc ?_ _)) (by decide)
  · refine C_blk (xs := trialLabs) (t := 75) (by repeat (first | exact blk_new' (by simp) | refine blk_alloc ?_ _)) (by decide) (fun j => [.int .i64 (trialLabs.getD j z75).f0, .slice (some ⟨w.heap.size + 3 + j, 0, none⟩) 3 3]) (fun j p hj => ?_)
    match j, hj with
    | 0, hj =>
      cases hj
      exact ⟨rfl, k75_mk _ _ (by decide) (C_ints (xs := [120, 122, 230]) (by repeat (first | exact blk_new' (by simp) | refine blk_alloc ?_ _)) (by decide)), fun i u hu => by match i, hu with | 0, hu => exact hu | 1, hu => exact hu⟩
    | 1, hj =>
      cases hj
      exact ⟨rfl, k75_mk _ _ (by decide) (C_ints (xs := [124, 121, 234]) (by repeat (first | exact blk_new' (by simp) | refine blk_alloc ?_ _)) (by decide)), fun i u hu => by match i, hu with | 0, hu => exact hu | 1, hu => exact hu⟩
    | 2, hj =>
      cases hj
      exact ⟨rfl, k75_mk _ _ (by decide) (C_ints (xs := [131, 133, 240]) (by repeat (first | exact blk_new' (by simp) | refine blk_alloc ?_ _)) (by decide)), fun i u hu => by match i, hu with | 0, hu => exact hu | 1, hu => exact hu⟩
    | 3, hj =>
      cases hj
      exact ⟨rfl, k75_mk _ _ (by decide) (C_ints (xs := [-1, 118, 229]) (by repeat (first | exact blk_new' (by simp) | refine blk_alloc ?_ _)) (by decide)), fun i u hu => by match i, hu with | 0, hu => exact hu | 1, hu => exact hu⟩
  · repeat (first | exact Below.refl _ _ | refine below_alloc ?_ _)
end Go.Proofs.Ytcpbhklaffgokaa.Q
