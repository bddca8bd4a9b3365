import Derived.Test.YtcpbhklaffgokaaP1
namespace Go.Proofs.Ytcpbhklaffgokaa.Q
open Go.RowKit Go.Proofs.YtcpbhklaffgokaaW.PrintWords Go.Proofs.YtcpbhklaffgokaaW.PrintLast Go.Proofs.YtcpbhklaffgokaaW.PrintMore
set_option linter.unusedVariables false
set_option linter.unusedSimpArgs false
theorem readsFrom_off (o : Nat → Bool) (lab d i : Int) : ∀ (xs : List S75) (k : Nat), (∀ j, k ≤ j → j < k + xs.length → o j = true) → readsFrom o lab d i k xs = [] := by
  intro xs
  induction xs with
  | nil => intro k _; rfl
  | cons x xs ih =>
    intro k h
    simp only [readsFrom]
    rw [if_pos (.inl (h k (Nat.le_refl _) (by simp)))]
    exact ih (k + 1) (fun j h1 h2 => h j (by omega) (by simp only [List.length_cons]; omega))
/-- without any laboratory all is explained -/
theorem can_none {lots : List S46} {samples : List Int} {spread : Int} {labs : List S75} (hok : RoundOk lots samples spread labs) (o : Nat → Bool) (ho : ∀ j, j < labs.length → o j = true) : canF lots samples spread labs o = true := by
  unfold canF
  rw [can_iff hok]
  intro L hL
  have hl := hok.lot (lots.getD L z46) (by rw [List.getD_eq_getElem?_getD, List.getElem?_eq_getElem hL]; exact List.getElem_mem _)
  refine ⟨(lots.getD L z46).f0, ⟨by omega, by omega⟩, fun i hi _ => ⟨(lots.getD L z46).f0, ?_, by have := hok.sp0; omega, by have := hok.sp0; omega⟩⟩
  unfold sampR
  rw [readsFrom_off o (-1) 0 i labs 0 (fun j _ hj => ho j (by omega))]
  exact ⟨by show (-1073741824 : Int) ≤ _; omega, by show _ ≤ (1073741824 : Int); omega⟩
/-- the numbers from a on -/
def upto (a m : Nat) : List Int := (List.range' a m).map fun (k : Nat) => (k : Int)
theorem upto_succ (a m : Nat) : upto a (m + 1) = (a : Int) :: upto (a + 1) m := by simp [upto, List.range'_succ]
theorem fromF_full {can : List Int → Bool} {n : Nat} : ∀ {m : Nat} {l : List Int} {next : Nat}, next + m = n → can (l ++ upto next m) = true → l ++ upto next m ∈ fromF can n m l next := by
  intro m
  induction m with
  | zero =>
    intro l next _ h
    simp only [upto, List.range'_zero, List.map_nil, List.append_nil] at h ⊢
    simp [fromF, h]
  | succ m ih =>
    intro l next hn h
    rw [upto_succ] at h ⊢
    simp only [fromF, List.mem_flatMap]
    refine ⟨next, by rw [List.mem_range'_1]; omega, ?_⟩
    have := ih (l := l ++ [(next : Int)]) (next := next + 1) (by omega) (by simpa using h)
    simpa using this
theorem offOf_upto (n j : Nat) (h : j < n) : offOf (upto 0 n) j = true := by
  unfold offOf upto
  rw [List.contains_iff_mem, List.mem_map]
  exact ⟨j, by rw [List.mem_range'_1]; omega, rfl⟩
theorem fewest_some {lots : List S46} {samples : List Int} {spread : Int} {labs : List S75} (hc : checkRound lots samples spread labs = 0) : 0 < (fewestF lots samples spread labs).length := by
  have hok := roundOk_of_check hc
  unfold fewestF
  simp only [fewK]
  split
  · have := fromF_full (can := fun l => canF lots samples spread labs (offOf l)) (n := labs.length) (m := labs.length) (l := []) (next := 0) (by omega) (can_none hok _ (fun j hj => offOf_upto _ _ hj))
    exact List.length_pos_of_mem this
  · omega
end Go.Proofs.Ytcpbhklaffgokaa.Q
