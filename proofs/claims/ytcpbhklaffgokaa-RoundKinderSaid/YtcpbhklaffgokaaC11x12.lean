import Derived.IntWalk
import Derived.Test.YtcpbhklaffgokaaC11x11
namespace Go.Proofs.Ytcpbhklaffgokaa.Q
open Go.RowKit Go.Proofs.YtcpbhklaffgokaaW.PrintWords Go.Proofs.YtcpbhklaffgokaaW.PrintLast Go.Proofs.YtcpbhklaffgokaaW.PrintMore
set_option linter.unusedVariables false
set_option linter.unusedSimpArgs false
section
variable (lots : List S44) (samples : List Int) (spread : Int) (labs : List S62) (words : List Int) (bits shift : Int)
end
theorem r4 {α : Type} {d : Kd α} {e : Nat} {w : World} {base g : Nat} {ok : Nat → Prop} {v : Value} {xs : List α} (h : d.R e w base ok v xs) (hg : g < base) (u0 u1 u2 u3 : Value) : d.R e ((((w.setCell ⟨g, 0, none⟩ u0).setCell ⟨g, 1, none⟩ u1).setCell ⟨g, 2, none⟩ u2).setCell ⟨g, 3, none⟩ u3) base ok v xs := by
 have H : ∀ {w : World} (i : Nat) (u : Value), d.R e w base (fun k => ok k ∧ base ≤ k) v xs → d.R e (w.setCell ⟨g, i, none⟩ u) base (fun k => ok k ∧ base ≤ k) v xs := fun i u h => Kd.R_far h (fun k hk => (by have := hk.2; dsimp only; omega)) u
 exact Kd.R_mono (H 3 u3 (H 2 u2 (H 1 u1 (H 0 u0 (Kd.R_mono (Kd.R_bound h) (fun k hk => ⟨hk.1, hk.2.1⟩)))))) (fun k hk => hk.1)
end Go.Proofs.Ytcpbhklaffgokaa.Q
namespace Go.Proofs.Ytcpbhklaffgokaa.Q
open Go.RowKit Go.Proofs.YtcpbhklaffgokaaW.PrintWords Go.Proofs.YtcpbhklaffgokaaW.PrintLast Go.Proofs.YtcpbhklaffgokaaW.PrintMore
set_option linter.unusedVariables false
set_option linter.unusedSimpArgs false
section
variable {lots : List S46} {samples : List Int} {spread : Int} {labs : List S75}
end
end Go.Proofs.Ytcpbhklaffgokaa.Q
namespace Go.Proofs.Ytcpbhklaffgokaa.Q
open Go.RowKit Go.Proofs.YtcpbhklaffgokaaW.PrintWords Go.Proofs.YtcpbhklaffgokaaW.PrintLast Go.Proofs.YtcpbhklaffgokaaW.PrintMore
set_option linter.unusedVariables false
set_option linter.unusedSimpArgs false
section
variable (lots : List S44) (samples : List Int) (spread : Int) (labs : List S62)
end
end Go.Proofs.Ytcpbhklaffgokaa.Q
namespace Go.Proofs.Ytcpbhklaffgokaa.Q
open Go.RowKit Go.Proofs.YtcpbhklaffgokaaW.PrintWords Go.Proofs.YtcpbhklaffgokaaW.PrintLast Go.Proofs.YtcpbhklaffgokaaW.PrintMore
attribute [local go_sem] max2_int min2_int max_two min_two max_three min_three max_four min_four
set_option linter.unusedVariables false
set_option linter.unusedSimpArgs false
end Go.Proofs.Ytcpbhklaffgokaa.Q
namespace Go.Proofs.Ytcpbhklaffgokaa.Q
open Go.RowKit Go.Proofs.YtcpbhklaffgokaaW.PrintWords Go.Proofs.YtcpbhklaffgokaaW.PrintLast Go.Proofs.YtcpbhklaffgokaaW.PrintMore
set_option linter.unusedVariables false
set_option linter.unusedSimpArgs false
theorem upto_append (a m j : Nat) : upto a (m + j) = upto a m ++ upto (a + m) j := by
 unfold upto
 rw [← List.range'_append_1, List.map_append]
theorem mem_upto (a m : Nat) (x : Int) : x ∈ upto a m ↔ (a : Int) ≤ x ∧ x < (a + m : Nat) := by
 unfold upto
 rw [List.mem_map]
 constructor
 ·rintro ⟨k, hk, rfl⟩
  rw [List.mem_range'_1] at hk
  omega
 ·rintro ⟨h1, h2⟩
  exact ⟨x.toNat, by rw [List.mem_range'_1]; omega, by omega⟩
theorem fromF_rising {can : List Int → Bool} {n : Nat} : ∀ {m : Nat} {l : List Int} {next : Nat} {y : List Int}, y ∈ fromF can n m l next → next ≤ n → ∃ t, y = l ++ t ∧ (upto next (n - next)).filter (fun x => t.contains x) = t := by
 intro m
 induction m with
 | zero =>
  intro l next y hy _
  simp only [fromF] at hy
  split at hy
  ·rw [List.mem_singleton.1 hy]
   refine ⟨[], by simp, ?_⟩
   rw [List.filter_eq_nil_iff]
   intro a _
   simp
  ·cases hy
 | succ m ih =>
  intro l next y hy hn
  simp only [fromF, List.mem_flatMap] at hy
  obtain ⟨k, hk1, hk⟩ := hy
  rw [List.mem_range'_1] at hk1
  obtain ⟨t, rfl, ht⟩ := ih hk (by omega)
  refine ⟨(k : Int) :: t, by simp, ?_⟩
  have htm : ∀ x ∈ t, (k : Int) + 1 ≤ x := by
   intro x hx
   rw [← ht, List.mem_filter, mem_upto] at hx
   omega
  rw [show n - next = (k - next) + ((n - (k + 1)) + 1) by omega, upto_append, show next + (k - next) = k by omega, upto_succ, List.filter_append, List.filter_cons_of_pos (by simp)]
  have e1 : (upto next (k - next)).filter (fun x => ((k : Int) :: t).contains x) = [] := by
   rw [List.filter_eq_nil_iff]
   intro x hx
   rw [mem_upto] at hx
   simp only [List.contains_iff_mem, List.mem_cons, not_or]
   exact ⟨by omega, fun h => by have := htm x h; omega⟩
  have e2 : (upto (k + 1) (n - (k + 1))).filter (fun x => ((k : Int) :: t).contains x) = (upto (k + 1) (n - (k + 1))).filter (fun x => t.contains x) := by
   refine List.filter_congr (fun x hx => ?_)
   rw [mem_upto] at hx
   refine bool_ext ?_
   simp only [List.contains_iff_mem, List.mem_cons]
   constructor
   ·rintro (h | h)
    ·omega
    ·exact h
   ·exact .inr
  rw [e1, e2, ht]
  rfl
theorem fewK_rising {can : List Int → Bool} {n : Nat} : ∀ (k : Nat) (y : List Int), y ∈ fewK can n k → (upto 0 n).filter (fun x => y.contains x) = y := by
 intro k
 induction k with
 | zero => intro y hy; cases hy
 | succ k ih =>
  intro y hy
  simp only [fewK] at hy
  split at hy
  ·obtain ⟨t, rfl, ht⟩ := fromF_rising hy (Nat.zero_le _)
   simpa using ht
  ·exact ih y hy
end Go.Proofs.Ytcpbhklaffgokaa.Q
namespace Go.Proofs.Ytcpbhklaffgokaa.Q
open Go.RowKit Go.Proofs.YtcpbhklaffgokaaW.PrintWords Go.Proofs.YtcpbhklaffgokaaW.PrintLast Go.Proofs.YtcpbhklaffgokaaW.PrintMore
set_option linter.unusedVariables false
set_option linter.unusedSimpArgs false
section
variable {lots : List S44} {samples : List Int} {spread : Int} {labs : List S62} {words : List Int} {bits shift : Int}
end
theorem fromF_all {can : List Int → Bool} {n : Nat} : ∀ (t l : List Int) (next : Nat), t.Pairwise (· < ·) → (∀ x ∈ t, (next : Int) ≤ x ∧ x < n) → can (l ++ t) = true → l ++ t ∈ fromF can n t.length l next := by
 intro t
 induction t with
 | nil =>
  intro l next _ _ hc
  rw [List.append_nil] at hc ⊢
  simp [fromF, hc]
 | cons x t ih =>
  intro l next hp hb hc
  obtain ⟨b0, b1⟩ := hb x List.mem_cons_self
  obtain ⟨hx, ht⟩ := List.pairwise_cons.1 hp
  rw [List.length_cons]
  simp only [fromF, List.mem_flatMap]
  refine ⟨x.toNat, by rw [List.mem_range'_1]; omega, ?_⟩
  have e : ((x.toNat : Nat) : Int) = x := by omega
  rw [e]
  have := ih (l ++ [x]) (x.toNat + 1) ht (fun y hy => by have := hx y hy; have := hb y (List.mem_cons_of_mem _ hy); omega) (by rwa [List.append_assoc, List.singleton_append])
  rwa [List.append_assoc, List.singleton_append] at this
theorem few_le {can : List Int → Bool} {n : Nat} (y : List Int) (hp : y.Pairwise (· < ·)) (hb : ∀ x ∈ y, (0 : Int) ≤ x ∧ x < n) (hn : y.length ≤ n) (hc : can y = true) :
  (∀ x ∈ fewK can n (n + 1), x.length ≤ y.length) ∧ ((∀ x ∈ fewK can n (n + 1), x.length = y.length) → y ∈ fewK can n (n + 1)) := by
 have hm : y ∈ fromF can n y.length [] 0 := by
  have := fromF_all (can := can) (n := n) y [] 0 hp (fun x hx => by have := hb x hx; omega) (by simpa using hc)
  simpa using this
 by_cases h0 : (fewK can n y.length).length = 0
 ·have e : fewK can n (y.length + 1) = fromF can n y.length [] 0 := by simp only [fewK]; rw [if_pos h0]
  have hne : (fewK can n (y.length + 1)).length ≠ 0 := by
   rw [e]
   intro h
   rw [List.eq_nil_of_length_eq_zero h] at hm
   cases hm
  rw [fewK_stays can n (y.length + 1) hne (n + 1) (by omega), e]
  exact ⟨fun x hx => by have := fromF_mem hx; simp at this; omega, fun _ => hm⟩
 ·rw [fewK_stays can n y.length h0 (n + 1) (by omega)]
  refine ⟨fun x hx => Nat.le_of_lt (fewK_mem hx), fun h => ?_⟩
  cases hx : fewK can n y.length with
  | nil => rw [hx] at h0; exact absurd rfl h0
  | cons x xs =>
   have hm' : x ∈ fewK can n y.length := by rw [hx]; exact List.mem_cons_self
   have h1 := h x hm'
   have h2 := fewK_mem hm'
   omega
theorem fewK_same (can : List Int → Bool) (n : Nat) : ∀ k, ∀ x ∈ fewK can n k, ∀ z ∈ fewK can n k, x.length = z.length := by
 intro k
 induction k with
 | zero => intro x hx; cases hx
 | succ k ih =>
  intro x hx z hz
  simp only [fewK] at hx hz
  split at hx
  ·rename_i h
   rw [if_pos h] at hz
   rw [fromF_mem hx, fromF_mem hz]
  ·rename_i h
   rw [if_neg h] at hz
   exact ih x hx z hz
theorem least_le {lots : List S46} {samples : List Int} {spread : Int} {labs : List S75} (hok : RoundOk lots samples spread labs) (y : List Int) (hp : y.Pairwise (· < ·)) (hb : ∀ x ∈ y, (0 : Int) ≤ x ∧ x < labs.length) (hn : y.length ≤ labs.length) (hc : canF lots samples spread labs (offOf y) = true) :
  (leastF lots samples spread labs).2 = 0 ∧ (leastF lots samples spread labs).1.length ≤ y.length ∧ ((convF lots samples spread labs).2 = 0 ∨ (convF lots samples spread labs).2 = 7) ∧ ((leastF lots samples spread labs).1.length = y.length → ∀ x ∈ (convF lots samples spread labs).1, x ∈ y) := by
 have hk := check_of_ok hok
 have h0 := fewest_some hk
 obtain ⟨h1, h2⟩ := few_le (can := fun l => canF lots samples spread labs (offOf l)) y hp hb hn hc
 have el : leastF lots samples spread labs = ((fewestF lots samples spread labs).getD 0 [], 0) := by unfold leastF; rw [if_pos hk]
 have ec : convF lots samples spread labs = if convL (fewestF lots samples spread labs) = [] then ([], 7) else (convL (fewestF lots samples spread labs), 0) := by unfold convF; rw [if_pos hk]
 have hall := fewK_same (fun l => canF lots samples spread labs (offOf l)) labs.length (labs.length + 1)
 rw [el, ec]
 change ∀ x ∈ fewestF lots samples spread labs, _ at h1
 change (∀ x ∈ fewestF lots samples spread labs, _) → y ∈ fewestF lots samples spread labs at h2
 change ∀ x ∈ fewestF lots samples spread labs, ∀ z ∈ fewestF lots samples spread labs, _ at hall
 have hm : (fewestF lots samples spread labs).getD 0 [] ∈ fewestF lots samples spread labs := by
  rw [List.getD_eq_getElem?_getD, List.getElem?_eq_getElem h0]
  exact List.getElem_mem _
 refine ⟨rfl, h1 _ hm, ?_, fun he x hx => ?_⟩
 ·split
  ·exact .inr rfl
  ·exact .inl rfl
 ·have hx' : x ∈ convL (fewestF lots samples spread labs) := by
   split at hx
   ·cases hx
   ·exact hx
  unfold convL at hx'
  have hp := (List.mem_filter.1 hx').2
  unfold convP at hp
  rw [List.all_eq_true] at hp
  have hy := h2 (fun z hz => by rw [hall z hz _ hm]; exact he)
  have := hp y hy
  simpa using this
end Go.Proofs.Ytcpbhklaffgokaa.Q
namespace Go.Proofs.Ytcpbhklaffgokaa.Q
open Go.RowKit Go.Proofs.YtcpbhklaffgokaaW.PrintWords Go.Proofs.YtcpbhklaffgokaaW.PrintLast Go.Proofs.YtcpbhklaffgokaaW.PrintMore
set_option linter.unusedVariables false
set_option linter.unusedSimpArgs false
structure Kinder (lots lots' : List S46) (samples : List Int) (spread spread' : Int) (labs labs' : List S75) : Prop where
 ll : lots'.length = lots.length
 bl : labs'.length = labs.length
 lot : ∀ L v, L < lots.length → inR v (lots.getD L z46) → inR v (lots'.getD L z46)
 sp : spread ≤ spread'
 lab : ∀ j i : Nat, j < labs.length → i < samples.length → rdL (labs'.getD j z75) (i : Int) ≠ -1 → rdL (labs'.getD j z75) (i : Int) = rdL (labs.getD j z75) (i : Int) ∧ (labs.getD j z75).f0 ≤ (labs'.getD j z75).f0
section
variable {lots lots' : List S46} {samples : List Int} {spread spread' : Int} {labs labs' : List S75}
theorem kinder_samp (h : Kinder lots lots' samples spread spread' labs labs') (o : Nat → Bool) (lab d : Int) (i : Nat) (hi : i < samples.length) (v : Int) (hv : inR v (sampR labs o lab d (i : Int))) : inR v (sampR labs' o lab d (i : Int)) := by
 rw [sampR_iff] at hv ⊢
 refine ⟨hv.1, fun j hj ho hn => ?_⟩
 rw [h.bl] at hj
 obtain ⟨e, ht⟩ := h.lab j i hj hi hn
 have := hv.2 j hj ho (by rw [← e]; exact hn)
 unfold rangeOf inR at this ⊢
 rw [e]
 simp only at this ⊢
 omega
theorem kinder_can (hok : RoundOk lots samples spread labs) (hokX : RoundOk lots' samples spread' labs') (h : Kinder lots lots' samples spread spread' labs labs') (o : Nat → Bool) (lab d : Int) (hc : (spansF lots samples spread labs o lab d).2 = true) : (spansF lots' samples spread' labs' o lab d).2 = true := by
 rw [can_iff hok] at hc
 rw [can_iff hokX]
 intro L hL
 rw [h.ll] at hL
 obtain ⟨v, hv, hf⟩ := hc L hL
 refine ⟨v, h.lot L v hL hv, fun i hi e => ?_⟩
 obtain ⟨u, hu, p, q⟩ := hf i hi e
 have := h.sp
 exact ⟨u, kinder_samp h o lab d i hi u hu, by omega, by omega⟩
theorem fromF_can {can : List Int → Bool} {n : Nat} : ∀ {m : Nat} {l : List Int} {next : Nat} {y : List Int}, y ∈ fromF can n m l next → can y = true := by
 intro m
 induction m with
 | zero =>
  intro l next y hy
  simp only [fromF] at hy
  split at hy
  ·rw [List.mem_singleton.1 hy]; assumption
  ·cases hy
 | succ m ih =>
  intro l next y hy
  simp only [fromF, List.mem_flatMap] at hy
  obtain ⟨k, _, hk⟩ := hy
  exact ih hk
theorem fewK_can {can : List Int → Bool} {n : Nat} : ∀ {k : Nat} {y : List Int}, y ∈ fewK can n k → can y = true := by
 intro k
 induction k with
 | zero => intro y hy; cases hy
 | succ k ih =>
  intro y hy
  simp only [fewK] at hy
  split at hy
  ·exact fromF_can hy
  ·exact ih hy
theorem kinder_least (hok : RoundOk lots samples spread labs) (hokX : RoundOk lots' samples spread' labs') (h : Kinder lots lots' samples spread spread' labs labs') :
  (leastF lots samples spread labs).2 = 0 ∧ (leastF lots' samples spread' labs').2 = 0 ∧ (leastF lots' samples spread' labs').1.length ≤ (leastF lots samples spread labs).1.length := by
 have hk := check_of_ok hok
 have h0 := fewest_some hk
 have hm : (fewestF lots samples spread labs).getD 0 [] ∈ fewestF lots samples spread labs := by
  rw [List.getD_eq_getElem?_getD, List.getElem?_eq_getElem h0]
  exact List.getElem_mem _
 have el : leastF lots samples spread labs = ((fewestF lots samples spread labs).getD 0 [], 0) := by unfold leastF; rw [if_pos hk]
 rw [el]
 generalize (fewestF lots samples spread labs).getD 0 [] = y at hm ⊢
 have hc : canF lots samples spread labs (offOf y) = true := fewK_can hm
 have hr := fewK_rising _ y hm
 have hlen := fewK_mem hm
 have hp : y.Pairwise (· < ·) := by rw [← hr]; exact List.Pairwise.filter _ (upto_pairwise _)
 have hb : ∀ x ∈ y, (0 : Int) ≤ x ∧ x < labs'.length := fun x hx => by
  rw [← hr] at hx
  have := (mem_upto _ _ _).1 (List.mem_filter.1 hx).1
  rw [h.bl]
  omega
 obtain ⟨q0, q1, -, -⟩ := least_le hokX y hp hb (by rw [h.bl]; omega) (kinder_can hok hokX h _ (-1) 0 hc)
 exact ⟨rfl, q0, q1⟩
theorem kinder_refl : Kinder lots lots samples spread spread labs labs := ⟨rfl, rfl, fun _ _ _ h => h, Int.le_refl _, fun _ _ _ _ _ => ⟨rfl, Int.le_refl _⟩⟩
theorem kinder_spread (hok : RoundOk lots samples spread labs) (h0 : spread ≤ spread') (h1 : spread' ≤ 100) : RoundOk lots samples spread' labs ∧ Kinder lots lots samples spread spread' labs labs := by
 obtain ⟨l0, l4, s8, b6, hlot, hsmp, sp0, sp1, hlab⟩ := hok
 exact ⟨⟨l0, l4, s8, b6, hlot, hsmp, by omega, h1, hlab⟩, ⟨rfl, rfl, fun _ _ _ h => h, h0, fun _ _ _ _ _ => ⟨rfl, Int.le_refl _⟩⟩⟩
theorem getD_set {α : Type} (xs : List α) (i j : Nat) (x z : α) (hi : i < xs.length) : (xs.set i x).getD j z = if i = j then x else xs.getD j z := by
 rw [List.getD_eq_getElem?_getD, List.getElem?_set, List.getD_eq_getElem?_getD]
 by_cases e : i = j
 ·subst e
  simp [hi]
 ·simp [e]
theorem mem_set {α : Type} {xs : List α} {i : Nat} {x y : α} (h : y ∈ xs.set i x) : y = x ∨ y ∈ xs := by
 rcases List.mem_or_eq_of_mem_set h with h | h
 ·exact .inr h
 ·exact .inl h
theorem kinder_lot (hok : RoundOk lots samples spread labs) (i : Nat) (hi : i < lots.length) (lo hi' : Int) (h0 : 0 ≤ lo) (h1 : lo ≤ (lots.getD i z46).f0) (h2 : (lots.getD i z46).f1 ≤ hi') (h3 : hi' ≤ 1000) :
  RoundOk (lots.set i ⟨lo, hi'⟩) samples spread labs ∧ Kinder lots (lots.set i ⟨lo, hi'⟩) samples spread spread labs labs := by
 obtain ⟨l0, l4, s8, b6, hlot, hsmp, sp0, sp1, hlab⟩ := hok
 have hm : lots.getD i z46 ∈ lots := by
  rw [List.getD_eq_getElem?_getD, List.getElem?_eq_getElem hi]
  exact List.getElem_mem _
 have hl := hlot _ hm
 refine ⟨⟨by rw [List.length_set]; exact l0, by rw [List.length_set]; exact l4, s8, b6, fun x hx => ?_, fun x hx => by rw [List.length_set]; exact hsmp x hx, sp0, sp1, hlab⟩, ⟨by rw [List.length_set], rfl, fun L v hL hv => ?_, Int.le_refl _, fun _ _ _ _ _ => ⟨rfl, Int.le_refl _⟩⟩⟩
 ·rcases mem_set hx with rfl | hx
  ·exact ⟨h0, by show lo ≤ hi'; omega, h3⟩
  ·exact hlot x hx
 ·rw [getD_set _ _ _ _ _ hi]
  by_cases e : i = L
  ·subst e
   rw [if_pos rfl]
   unfold inR at hv ⊢
   exact ⟨by show lo ≤ v; omega, by show v ≤ hi'; omega⟩
  ·rw [if_neg e]
   exact hv
theorem kinder_lab (hok : RoundOk lots samples spread labs) (k : Nat) (hk : k < labs.length) (x : S75) (hx : LabOk samples.length x) (ht : (labs.getD k z75).f0 ≤ x.f0) (hr : ∀ i, i < samples.length → rdL x (i : Int) ≠ -1 → rdL x (i : Int) = rdL (labs.getD k z75) (i : Int)) :
  RoundOk lots samples spread (labs.set k x) ∧ Kinder lots lots samples spread spread labs (labs.set k x) := by
 obtain ⟨l0, l4, s8, b6, hlot, hsmp, sp0, sp1, hlab⟩ := hok
 refine ⟨⟨l0, l4, s8, by rw [List.length_set]; exact b6, hlot, hsmp, sp0, sp1, fun y hy => ?_⟩, ⟨rfl, by rw [List.length_set], fun _ _ _ h => h, Int.le_refl _, fun j i hj hi hn => ?_⟩⟩
 ·rcases mem_set hy with rfl | hy
  ·exact hx
  ·exact hlab y hy
 ·rw [getD_set _ _ _ _ _ hk] at hn ⊢
  by_cases e : k = j
  ·subst e
   rw [if_pos rfl] at hn ⊢
   exact ⟨hr i hi hn, ht⟩
  ·rw [if_neg e]
   exact ⟨rfl, Int.le_refl _⟩
end
end Go.Proofs.Ytcpbhklaffgokaa.Q
namespace Go.Proofs.Ytcpbhklaffgokaa.Q
open Go.RowKit Go.Proofs.YtcpbhklaffgokaaW.PrintWords Go.Proofs.YtcpbhklaffgokaaW.PrintLast Go.Proofs.YtcpbhklaffgokaaW.PrintMore
set_option linter.unusedVariables false
set_option linter.unusedSimpArgs false
theorem raw_C {α : Type} {d : Kd α} {w : World} {A : Option Addr} {xs : List α} (h : d.C w A xs.length xs) :
  ∃ rows : List (List Value), rows.length = xs.length ∧ (Kd.raw d.sz).C w A rows.length rows ∧ ∀ (j : Nat) (p : α), xs[j]? = some p → ∃ c, rows[j]? = some c ∧ d.K w p c := by
 obtain ⟨h1, h2, h3⟩ := h
 by_cases hn : 0 < xs.length
 ·obtain ⟨ad, hA, hc⟩ := h3 hn
  have key : ∀ j : Fin xs.length, ∃ c : List Value, c.length = d.sz ∧ d.K w xs[j] c ∧ ∀ i u, c[i]? = some u → w.cell? (ad.add (j.1 * d.sz + i)) = some u := fun j => hc j.1 _ (List.getElem?_eq_getElem j.2)
  have hf := fun j => Classical.choose_spec (key j)
  have hg : ∀ (j : Nat) (p : List Value), (List.ofFn fun j => Classical.choose (key j))[j]? = some p → ∃ hj : j < xs.length, p = Classical.choose (key ⟨j, hj⟩) := fun j p hp => by
   have hj : j < xs.length := by
    have := (List.getElem?_eq_some_iff.1 hp).1
    rwa [List.length_ofFn] at this
   refine ⟨hj, ?_⟩
   rw [List.getElem?_eq_getElem (by rw [List.length_ofFn]; exact hj), List.getElem_ofFn] at hp
   exact (Option.some.inj hp).symm
  refine ⟨List.ofFn fun j => Classical.choose (key j), List.length_ofFn, ⟨rfl, by rw [List.length_ofFn]; exact h2, fun _ => ⟨ad, hA, fun j p hp => ?_⟩⟩, fun j p hp => ?_⟩
  ·obtain ⟨hj, rfl⟩ := hg j p hp
   obtain ⟨a, b, c⟩ := hf ⟨j, hj⟩
   exact ⟨_, a, ⟨rfl, a, d.K_one b⟩, c⟩
  ·have hj := (List.getElem?_eq_some_iff.1 hp).1
   obtain ⟨a, b, c⟩ := hf ⟨j, hj⟩
   refine ⟨Classical.choose (key ⟨j, hj⟩), ?_, ?_⟩
   ·rw [List.getElem?_eq_getElem (by rw [List.length_ofFn]; exact hj), List.getElem_ofFn]
   ·have e : xs[j] = p := (List.getElem?_eq_some_iff.1 hp).2
    rw [← e]
    exact b
 ·have hx : xs = [] := List.eq_nil_of_length_eq_zero (by omega)
  subst hx
  exact ⟨[], rfl, ⟨rfl, by simp, fun h => absurd h (by simp)⟩, fun j p hp => by simp at hp⟩
theorem raw_C' {α : Type} {d : Kd α} {w : World} {A : Option Addr} {xs : List α} (h : d.C w A xs.length xs) :
  ∃ rows : List (List Value), rows.length = xs.length ∧ (Kd.raw d.sz).C w A xs.length rows ∧ ∀ (j : Nat) (p : α), xs[j]? = some p → ∃ c, rows[j]? = some c ∧ d.K w p c := by
 obtain ⟨rows, hl, hC, hk⟩ := raw_C h
 refine ⟨rows, hl, ?_, hk⟩
 rw [← hl]
 exact hC
theorem C_raw {α : Type} {d : Kd α} {w : World} {A : Option Addr} {xs : List α} {rows : List (List Value)} (hl : rows.length = xs.length) (h : (Kd.raw d.sz).C w A rows.length rows) (hk : ∀ (j : Nat) (p : α), xs[j]? = some p → ∃ c, rows[j]? = some c ∧ d.K w p c) : d.C w A xs.length xs := by
 obtain ⟨h1, h2, h3⟩ := h
 refine ⟨rfl, by rw [← hl]; exact h2, fun hn => ?_⟩
 obtain ⟨ad, hA, hc⟩ := h3 (by omega)
 refine ⟨ad, hA, fun j p hp => ?_⟩
 obtain ⟨c, hj, hK⟩ := hk j p hp
 obtain ⟨c', a, ⟨rfl, b, e⟩, f⟩ := hc j c hj
 exact ⟨c', a, hK, f⟩
theorem raw_open {e : Nat} {w : World} {base : Nat} {ok : Nat → Prop} {A : Option Addr} {n c : Nat} {rows : List (List Value)} (h : (Kd.raw 2).R e w base ok (.slice A n c) rows) (hn : 0 < rows.length) :
  ∃ g cur, A = some ⟨g, 0, none⟩ ∧ base ≤ g ∧ w.heap[g]? = some (.cells cur e (0, 0)) ∧ n = rows.length ∧ n ≤ c ∧ ∀ (j : Nat) (row : List Value), rows[j]? = some row → row.length = 2 ∧ (∀ u ∈ row, u.oneCell' = true) ∧ ∀ (i : Nat) (u : Value), row[i]? = some u → cur[j * 2 + i]? = some u := by
 obtain ⟨n1, hc, hC⟩ := Kd.R_reads' h
 obtain ⟨h0, inner, ho, hr⟩ := h
 rcases ho.2 with ⟨e1, e2⟩ | ⟨g, cap, cur, e1, hb, hh, -⟩
 ·omega
 ·injection e1 with e1 e2 e3
  subst e1
  refine ⟨g, cur, rfl, hb, hh, n1, hc, fun j row hj => ?_⟩
  obtain ⟨-, -, h3⟩ := hC
  obtain ⟨ad, hA, hcell⟩ := h3 hn
  injection hA with hA
  subst hA
  obtain ⟨c', a, ⟨rfl, b, d⟩, f⟩ := hcell j row hj
  refine ⟨a, d, fun i u hu => ?_⟩
  have := f i u hu
  have e2 : (⟨g, 0, none⟩ : Addr).add (j * 2 + i) = ⟨g, j * 2 + i, none⟩ := by simp [Addr.add]; omega
  have e3 : (Kd.raw 2).sz = 2 := rfl
  rw [e3, e2] at this
  rw [← this, blk_cell hh]
theorem blk_rows {e : Nat} {w : World} {g : Nat} {cur : Array Value} {rows : List (List Value)} (hh : w.heap[g]? = some (.cells cur e (0, 0))) (hn : rows.length ≤ 9223372036854775807)
  (h : ∀ (j : Nat) (row : List Value), rows[j]? = some row → row.length = 2 ∧ (∀ u ∈ row, u.oneCell' = true) ∧ ∀ (i : Nat) (u : Value), row[i]? = some u → cur[j * 2 + i]? = some u) : (Kd.raw 2).C w (some ⟨g, 0, none⟩) rows.length rows := by
 refine ⟨rfl, hn, fun _ => ⟨⟨g, 0, none⟩, rfl, fun j row hj => ?_⟩⟩
 obtain ⟨a, b, c⟩ := h j row hj
 refine ⟨row, a, ⟨rfl, a, b⟩, fun i u hu => ?_⟩
 have e2 : (⟨g, 0, none⟩ : Addr).add (j * 2 + i) = ⟨g, j * 2 + i, none⟩ := by simp [Addr.add]; omega
 have e3 : (Kd.raw 2).sz = 2 := rfl
 rw [e3, e2, blk_cell hh]
 exact c i u hu
theorem rows_set {cur : Array Value} {rows : List (List Value)} (h : ∀ (j : Nat) (row : List Value), rows[j]? = some row → row.length = 2 ∧ (∀ u ∈ row, u.oneCell' = true) ∧ ∀ (i : Nat) (u : Value), row[i]? = some u → cur[j * 2 + i]? = some u)
  (k i0 : Nat) (r0 : List Value) (hk : rows[k]? = some r0) (hi : i0 < 2) (x : Value) (hx : x.oneCell' = true) :
  ∀ (j : Nat) (row : List Value), (rows.set k (r0.set i0 x))[j]? = some row → row.length = 2 ∧ (∀ u ∈ row, u.oneCell' = true) ∧ ∀ (i : Nat) (u : Value), row[i]? = some u → (cur.setIfInBounds (k * 2 + i0) x)[j * 2 + i]? = some u := by
 intro j row hj
 rw [List.getElem?_set] at hj
 by_cases e : k = j
 ·subst e
  have hl : k < rows.length := (List.getElem?_eq_some_iff.1 hk).1
  rw [if_pos rfl, if_pos hl] at hj
  injection hj with hj
  subst hj
  obtain ⟨a, b, c⟩ := h k r0 hk
  refine ⟨by rw [List.length_set]; exact a, fun u hu => ?_, fun i u hu => ?_⟩
  ·rcases List.mem_or_eq_of_mem_set hu with hu | rfl
   ·exact b u hu
   ·exact hx
  ·rw [List.getElem?_set] at hu
   by_cases e : i0 = i
   ·subst e
    rw [if_pos rfl, if_pos (by omega)] at hu
    injection hu with hu
    subst hu
    have hlt : k * 2 + i0 < cur.size := by
     obtain ⟨v, hv⟩ : ∃ v, r0[i0]? = some v := ⟨_, List.getElem?_eq_getElem (by omega)⟩
     exact (Array.getElem?_eq_some_iff.1 (c i0 v hv)).1
    rw [Array.getElem?_setIfInBounds_self_of_lt hlt]
   ·rw [if_neg e] at hu
    rw [Array.getElem?_setIfInBounds_ne (by omega)]
    exact c i u hu
 ·rw [if_neg e] at hj
  obtain ⟨a, b, c⟩ := h j row hj
  refine ⟨a, b, fun i u hu => ?_⟩
  have hil : i < 2 := by
   have := (List.getElem?_eq_some_iff.1 hu).1
   omega
  rw [Array.getElem?_setIfInBounds_ne (by omega)]
  exact c i u hu
theorem labs_set {w5 wd : World} {gb : Nat} {cur : Array Value} {rb : List (List Value)} {labs : List S62} (hh : w5.heap[gb]? = some (.cells cur 62 (0, 0)))
  (hr : ∀ (j : Nat) (row : List Value), rb[j]? = some row → row.length = 2 ∧ (∀ u ∈ row, u.oneCell' = true) ∧ ∀ (i : Nat) (u : Value), row[i]? = some u → cur[j * 2 + i]? = some u)
  (hl : rb.length = labs.length) (hl6 : labs.length ≤ 6) (hk : ∀ (j : Nat) (p : S62), labs[j]? = some p → ∃ c, rb[j]? = some c ∧ k62.K wd p c) (K i0 : Nat) (r0 : List Value) (hr0 : rb[K]? = some r0) (hi : i0 < 2) (x : Value) (hx : x.oneCell' = true) (x2 : S62) (hK2 : k62.K wd x2 (r0.set i0 x))
  (hwd : wd = w5.setCell ⟨gb, K * 2 + i0, none⟩ x) : Kd.C k62 wd (some ⟨gb, 0, none⟩) (labs.set K x2).length (labs.set K x2) := by
 have hh' : wd.heap[gb]? = some (.cells (cur.setIfInBounds (K * 2 + i0) x) 62 (0, 0)) := by rw [hwd]; exact blk_set hh _ _
 refine C_raw (d := k62) (rows := rb.set K (r0.set i0 x)) (by rw [List.length_set, List.length_set]; exact hl) (blk_rows hh' (by rw [List.length_set]; omega) (rows_set hr K i0 r0 hr0 hi x hx)) (fun j p hp => ?_)
 have hlt : K < rb.length := (List.getElem?_eq_some_iff.1 hr0).1
 rw [List.getElem?_set] at hp
 rw [List.getElem?_set]
 by_cases e : K = j
 ·subst e
  rw [if_pos rfl, if_pos (by omega)] at hp
  injection hp with hp
  subst hp
  exact ⟨r0.set i0 x, by rw [if_pos rfl, if_pos hlt], hK2⟩
 ·rw [if_neg e] at hp
  obtain ⟨c, h1, h2⟩ := hk j p hp
  exact ⟨c, by rw [if_neg e]; exact h1, h2⟩
theorem list_own {W : World} {x : Value} {l : List Int} (h : InL W x l) (hl : l.length < 17592186044416) : Calls Try.prog 22 #[x] W (Gets W (fun w' y => (Kd.int .i64).R 3 w' W.heap.size (fun _ => True) y l)) := by
 obtain ⟨A, c, rfl, hc, h0⟩ := h
 refine (tensilelaw08_list.calls A c l l W h0 hc (list_eq l hl)).mono ?_
 rintro e w' ⟨u, rfl, hu, hb⟩
 exact ⟨u, rfl, hu, hb⟩
end Go.Proofs.Ytcpbhklaffgokaa.Q
namespace Go.Proofs.Ytcpbhklaffgokaa.Q
open Go.RowKit Go.Proofs.YtcpbhklaffgokaaW.PrintWords Go.Proofs.YtcpbhklaffgokaaW.PrintLast Go.Proofs.YtcpbhklaffgokaaW.PrintMore
set_option linter.unusedVariables false
set_option linter.unusedSimpArgs false
theorem lots_set {w5 wd : World} {gl : Nat} {cur : Array Value} {rl : List (List Value)} {lots : List S44} (hh : w5.heap[gl]? = some (.cells cur 44 (0, 0)))
  (hr : ∀ (j : Nat) (row : List Value), rl[j]? = some row → row.length = 2 ∧ (∀ u ∈ row, u.oneCell' = true) ∧ ∀ (i : Nat) (u : Value), row[i]? = some u → cur[j * 2 + i]? = some u)
  (hl : rl.length = lots.length) (hl6 : lots.length ≤ 6) (hk : ∀ (j : Nat) (p : S44), lots[j]? = some p → ∃ c, rl[j]? = some c ∧ k44.K wd p c) (K : Nat) (hK : K < lots.length) (lo hi : Int)
  (hwd : wd = (w5.setCell ⟨gl, K * 2, none⟩ (.int .i64 lo)).setCell ⟨gl, K * 2 + 1, none⟩ (.int .i64 hi)) : Kd.C k44 wd (some ⟨gl, 0, none⟩) (lots.set K ⟨lo, hi⟩).length (lots.set K ⟨lo, hi⟩) := by
 obtain ⟨r0, hr0, hk0⟩ := hk K lots[K] (List.getElem?_eq_getElem hK)
 have hlt : K < rl.length := (List.getElem?_eq_some_iff.1 hr0).1
 have e0 := k44_open hk0
 have h1 := rows_set hr K 0 r0 hr0 (by omega) (.int .i64 lo) rfl
 have hr1 : (rl.set K (r0.set 0 (.int .i64 lo)))[K]? = some (r0.set 0 (.int .i64 lo)) := by rw [List.getElem?_set, if_pos rfl, if_pos hlt]
 have h2 := rows_set h1 K 1 _ hr1 (by omega) (.int .i64 hi) rfl
 have hh' : wd.heap[gl]? = some (.cells ((cur.setIfInBounds (K * 2 + 0) (.int .i64 lo)).setIfInBounds (K * 2 + 1) (.int .i64 hi)) 44 (0, 0)) := by
  rw [hwd]
  exact blk_set (blk_set hh _ _) _ _
 refine C_raw (d := k44) (rows := (rl.set K (r0.set 0 (.int .i64 lo))).set K ((r0.set 0 (.int .i64 lo)).set 1 (.int .i64 hi))) (by rw [List.length_set, List.length_set, List.length_set]; exact hl) (blk_rows hh' (by rw [List.length_set, List.length_set]; omega) h2) (fun j p hp => ?_)
 rw [List.getElem?_set] at hp
 rw [List.getElem?_set, List.getElem?_set]
 by_cases e : K = j
 ·subst e
  rw [if_pos rfl, if_pos (by omega)] at hp
  injection hp with hp
  subst hp
  refine ⟨_, by rw [if_pos rfl, if_pos (by rw [List.length_set]; exact hlt)], ?_⟩
  rw [e0]
  exact k44_mk wd ⟨lo, hi⟩
 ·rw [if_neg e] at hp
  obtain ⟨c, h1, h2⟩ := hk j p hp
  exact ⟨c, by rw [if_neg e, if_neg e]; exact h1, h2⟩
theorem labs_set2 {wd : World} {gb : Nat} {cur : Array Value} {rb : List (List Value)} {labs : List S62}
  (hr : ∀ (j : Nat) (row : List Value), rb[j]? = some row → row.length = 2 ∧ (∀ u ∈ row, u.oneCell' = true) ∧ ∀ (i : Nat) (u : Value), row[i]? = some u → cur[j * 2 + i]? = some u)
  (hl : rb.length = labs.length) (hl6 : labs.length ≤ 6) (hk : ∀ (j : Nat) (p : S62), labs[j]? = some p → ∃ c, rb[j]? = some c ∧ k62.K wd p c) (K i0 : Nat) (r0 : List Value) (hr0 : rb[K]? = some r0) (hi : i0 < 2) (x : Value) (hx : x.oneCell' = true) (x2 : S62) (hK2 : k62.K wd x2 (r0.set i0 x))
  (hh' : wd.heap[gb]? = some (.cells (cur.setIfInBounds (K * 2 + i0) x) 62 (0, 0))) : Kd.C k62 wd (some ⟨gb, 0, none⟩) (labs.set K x2).length (labs.set K x2) := by
 refine C_raw (d := k62) (rows := rb.set K (r0.set i0 x)) (by rw [List.length_set, List.length_set]; exact hl) (blk_rows hh' (by rw [List.length_set]; omega) (rows_set hr K i0 r0 hr0 hi x hx)) (fun j p hp => ?_)
 have hlt : K < rb.length := (List.getElem?_eq_some_iff.1 hr0).1
 rw [List.getElem?_set] at hp
 rw [List.getElem?_set]
 by_cases e : K = j
 ·subst e
  rw [if_pos rfl, if_pos (by omega)] at hp
  injection hp with hp
  subst hp
  exact ⟨r0.set i0 x, by rw [if_pos rfl, if_pos hlt], hK2⟩
 ·rw [if_neg e] at hp
  obtain ⟨c, h1, h2⟩ := hk j p hp
  exact ⟨c, by rw [if_neg e]; exact h1, h2⟩
theorem lot_kinder {lots : List S44} {samples : List Int} {spread : Int} {labs : List S62} (hok : RoundOk (lots.map m46) samples spread (labs.map m75)) (K : Nat) (hK : K < lots.length) (lo hi : Int) (h0 : 0 ≤ lo) (h1 : lo ≤ (lots.getD K z44).f0) (h2 : (lots.getD K z44).f1 ≤ hi) (h3 : hi ≤ 1000) :
  RoundOk ((lots.set K ⟨lo, hi⟩).map m46) samples spread (labs.map m75) ∧ Kinder (lots.map m46) ((lots.set K ⟨lo, hi⟩).map m46) samples spread spread (labs.map m75) (labs.map m75) := by
 have e : (lots.set K ⟨lo, hi⟩).map m46 = (lots.map m46).set K (m46 ⟨lo, hi⟩) := List.map_set ..
 rw [e]
 have hg : (lots.map m46).getD K z46 = m46 (lots.getD K z44) := by rw [getD46 lots K hK]; rfl
 exact kinder_lot hok K (by rw [List.length_map]; exact hK) lo hi h0 (by rw [hg]; exact h1) (by rw [hg]; exact h2) h3
theorem rd_set (l : List Int) (I i : Nat) (x : Int) (hI : I < l.length) : rd (l.set I x) (i : Int) = if I = i then x else rd l (i : Int) := by
 unfold rd
 rw [Int.toNat_natCast]
 exact getD_set l I i x 0 hI
theorem read_kinder {lots : List S44} {samples : List Int} {spread : Int} {labs : List S62} (hok : RoundOk (lots.map m46) samples spread (labs.map m75)) (K I : Nat) (hK : K < labs.length) (hI : I < (labs.getD K z62).f1.length) :
  RoundOk (lots.map m46) samples spread ((labs.set K ⟨(labs.getD K z62).f0, (labs.getD K z62).f1.set I (-1)⟩).map m75) ∧ Kinder (lots.map m46) (lots.map m46) samples spread spread (labs.map m75) ((labs.set K ⟨(labs.getD K z62).f0, (labs.getD K z62).f1.set I (-1)⟩).map m75) := by
 have hm : labs.getD K z62 ∈ labs := by
  rw [List.getD_eq_getElem?_getD, List.getElem?_eq_getElem hK]
  exact List.getElem_mem _
 obtain ⟨a, b, c, d⟩ := hok.labs _ (List.mem_map_of_mem hm)
 have c : (labs.getD K z62).f1.length = samples.length := c
 have e : (labs.set K ⟨(labs.getD K z62).f0, (labs.getD K z62).f1.set I (-1)⟩).map m75 = (labs.map m75).set K (m75 ⟨(labs.getD K z62).f0, (labs.getD K z62).f1.set I (-1)⟩) := List.map_set ..
 rw [e]
 have hg := getD75 labs K
 refine kinder_lab hok K (by rw [List.length_map]; exact hK) _ ⟨a, b, ?_, fun n hn => ?_⟩ ?_ (fun i hi hn => ?_)
 ·show ((labs.getD K z62).f1.set I (-1)).length = samples.length
  rw [List.length_set]
  exact c
 ·rcases mem_set (show n ∈ (labs.getD K z62).f1.set I (-1) from hn) with rfl | h
  ·omega
  ·exact d n h
 ·rw [hg]
  exact Int.le_refl _
 ·rw [hg]
  have hn : rd ((labs.getD K z62).f1.set I (-1)) (i : Int) ≠ -1 := hn
  show rd ((labs.getD K z62).f1.set I (-1)) (i : Int) = rd (labs.getD K z62).f1 (i : Int)
  rw [rd_set _ _ _ _ hI] at hn ⊢
  by_cases h : I = i
  ·rw [if_pos h] at hn
   exact absurd rfl hn
  ·rw [if_neg h]
theorem list_own2 {W : World} {x : Value} {l : List Int} {m : Nat} (h : InL W x l) (hl : l.length < 17592186044416) (hm : l.length = m) : Calls Try.prog 22 #[x] W (fun e w' => ∃ (Aq : Option Addr) (cq : Nat), e = .returned (.slice Aq m cq) ∧ (Kd.int .i64).R 3 w' W.heap.size (fun _ => True) (.slice Aq m cq) l ∧ Below W.heap.size W w') := by
 refine (list_own h hl).mono ?_
 rintro e w' ⟨y, rfl, hy, hb⟩
 obtain ⟨Aq, cq, rfl⟩ := Kd.R_slice hy
 rw [hm] at hy ⊢
 exact ⟨Aq, cq, rfl, hy, hb⟩
end Go.Proofs.Ytcpbhklaffgokaa.Q
namespace Go.Proofs.Ytcpbhklaffgokaa.Q
open Go.RowKit Go.Proofs.YtcpbhklaffgokaaW.PrintWords Go.Proofs.YtcpbhklaffgokaaW.PrintLast Go.Proofs.YtcpbhklaffgokaaW.PrintMore
set_option linter.unusedVariables false
set_option linter.unusedSimpArgs false
attribute [local go_sem] max2_int min2_int max_two min_two max_three min_three max_four min_four
theorem inL_mk3 {W : World} {A : Option Addr} {c : Nat} {l : List Int} (hc : l.length ≤ c) (hC : (Kd.int .i64).C W A l.length l) : InL W (.slice A l.length c) l := ⟨A, c, rfl, hc, hC⟩
theorem thin_of {lots : List S44} {samples : List Int} {spread : Int} {labs : List S62} (hok : RoundOk (lots.map m46) samples spread (labs.map m75)) : ThinR lots samples labs := by
 obtain ⟨l0, l4, s8, b6, hlot, hsmp, sp0, sp1, hlab⟩ := hok
 rw [List.length_map] at l4 b6
 refine ⟨by omega, by omega, by omega, fun x hx => ?_⟩
 obtain ⟨a, b, c, d⟩ := hlab _ (List.mem_map_of_mem hx)
 have c : x.f1.length = samples.length := c
 omega
theorem kin_in {W wc : World} {v : Value} {A0 : Option Addr} {c0 : Nat} {lots : List S44} {A1 : Option Addr} {c1 : Nat} {samples : List Int} {spread : Int} {A3 : Option Addr} {c3 : Nat} {labs : List S62} (h : In26 W v A0 c0 lots A1 c1 samples spread A3 c3 labs) (hb : Below W.heap.size W wc) {lots2 : List S44} {sp2 : Int} {labs2 : List S62} {Ax Ay : Option Addr} {cx cy : Nat} {rl rb : List (List Value)}
  (h1 : (Kd.raw 2).R 44 wc W.heap.size (fun _ => True) (.slice Ax lots2.length cx) rl) (h2 : (Kd.raw 2).R 62 wc W.heap.size (fun _ => True) (.slice Ay labs2.length cy) rb) (k1 : ∀ (j : Nat) (p : S44), lots2[j]? = some p → ∃ c, rl[j]? = some c ∧ k44.K wc p c) (k2 : ∀ (j : Nat) (p : S62), labs2[j]? = some p → ∃ c, rb[j]? = some c ∧ k62.K wc p c) (l1 : lots2.length ≤ 6) (l2 : labs2.length ≤ 6) (l3 : ∀ x ∈ labs2, x.f1.length ≤ 9223372036854775807) :
  In26 wc (.agg #[.slice Ax lots2.length cx, .slice A1 samples.length c1, .int .i64 sp2, .slice Ay labs2.length cy]) Ax cx lots2 A1 c1 samples sp2 Ay cy labs2 := by
 obtain ⟨a1, b1, g1⟩ := Kd.R_reads' h1
 obtain ⟨a2, b2, g2⟩ := Kd.R_reads' h2
 exact ⟨rfl, C_raw (d := k44) a1.symm g1 k1, b1, Kd.C_below h.r1 hb, h.h1, C_raw (d := k62) a2.symm g2 k2, b2, by omega, h.b, by omega, l3⟩
theorem kin_in2 {W wc : World} {v : Value} {A0 : Option Addr} {c0 : Nat} {lots : List S44} {A1 : Option Addr} {c1 : Nat} {samples : List Int} {spread : Int} {A3 : Option Addr} {c3 : Nat} {labs : List S62} (h : In26 W v A0 c0 lots A1 c1 samples spread A3 c3 labs) (hb : Below W.heap.size W wc) {lots2 : List S44} {sp2 : Int} {labs2 : List S62} {Ax Ay : Option Addr} {cx cy : Nat}
  (g1 : Kd.C k44 wc Ax lots2.length lots2) (b1 : lots2.length ≤ cx) (g2 : Kd.C k62 wc Ay labs2.length labs2) (b2 : labs2.length ≤ cy) (l1 : lots2.length ≤ 6) (l2 : labs2.length ≤ 6) (l3 : ∀ x ∈ labs2, x.f1.length ≤ 9223372036854775807) :
  In26 wc (.agg #[.slice Ax lots2.length cx, .slice A1 samples.length c1, .int .i64 sp2, .slice Ay labs2.length cy]) Ax cx lots2 A1 c1 samples sp2 Ay cy labs2 := ⟨rfl, g1, b1, Kd.C_below h.r1 hb, h.h1, g2, b2, by omega, h.b, by omega, l3⟩
theorem tol_kinder {lots : List S44} {samples : List Int} {spread : Int} {labs : List S62} (hok : RoundOk (lots.map m46) samples spread (labs.map m75)) (K : Nat) (hK : K < labs.length) (V : Int) (h0 : (labs.getD K z62).f0 ≤ V) (h1 : V ≤ 100) :
  RoundOk (lots.map m46) samples spread ((labs.set K ⟨V, (labs.getD K z62).f1⟩).map m75) ∧ Kinder (lots.map m46) (lots.map m46) samples spread spread (labs.map m75) ((labs.set K ⟨V, (labs.getD K z62).f1⟩).map m75) := by
 have hm : labs.getD K z62 ∈ labs := by
  rw [List.getD_eq_getElem?_getD, List.getElem?_eq_getElem hK]
  exact List.getElem_mem _
 obtain ⟨a, b, c, d⟩ := hok.labs _ (List.mem_map_of_mem hm)
 have e : (labs.set K ⟨V, (labs.getD K z62).f1⟩).map m75 = (labs.map m75).set K (m75 ⟨V, (labs.getD K z62).f1⟩) := List.map_set ..
 have a : 0 ≤ (labs.getD K z62).f0 := a
 rw [e]
 have hg := getD75 labs K
 refine kinder_lab hok K (by rw [List.length_map]; exact hK) _ ⟨by show 0 ≤ V; omega, h1, c, d⟩ ?_ (fun i hi hn => ?_)
 ·rw [hg]; exact h0
 ·rw [hg]; rfl
set_option maxHeartbeats 4000000 in
set_option maxRecDepth 100000 in
theorem kinder_no {W : World} {v : Value} {A0 : Option Addr} {c0 : Nat} {lots : List S44} {A1 : Option Addr} {c1 : Nat} {samples : List Int} {spread : Int} {A3 : Option Addr} {c3 : Nat} {labs : List S62} (h : In26 W v A0 c0 lots A1 c1 samples spread A3 c3 labs) (bits which at_ by_ : Int) (hr : Ev (fun k => tensilelaw08_ready.f k lots samples spread labs) false) :
  Calls Try.prog 9 #[.agg #[.slice A0 lots.length c0, .slice A1 samples.length c1, .int .i64 spread, .slice A3 labs.length c3], .int .u8 bits, .int .u8 which, .int .u8 at_, .int .u8 by_] W (RetB W (.bool true)) := by
 have HI := Aside0.mk h
 have HB := Aside0.mk (below_alloc (Below.refl _ W) (.cells #[.slice A0 lots.length c0, .slice A1 samples.length c1, .int .i64 spread, .slice A3 labs.length c3] 26))
 have B3 := Aside0.mk (blk_new W (.cells #[.slice A0 lots.length c0, .slice A1 samples.length c1, .int .i64 spread, .slice A3 labs.length c3] 26))
 obtain ⟨p0, p1, p2, p3⟩ := cells4 B3.out
 have lt_B3 := blk_lt B3.out
 have HRd := Aside0.mk hr
 clear h hr
 go_enter Try.func9, Try.ntmps9
 go_wp2_with (first | (go_at_call 35; (with_reducible refine (ready_at (HI.out.below (by repeat (first | (with_reducible exact HB.out) | apply below_alloc | apply pw_below_drewN | apply below_drew1 | refine below_set ?_ (by omega)))) HRd.out).mono ?_); rintro e w1 ⟨rfl, hb⟩; replace HB := Aside0.mk (below_step (by repeat (first | (with_reducible exact HB.out) | apply below_alloc | apply pw_below_drewN | apply below_drew1 | refine below_set ?_ (by omega))) hb); replace B3 := Aside0.mk (blk_below (g := W.heap.size) (o := .cells #[.slice A0 lots.length c0, .slice A1 samples.length c1, .int .i64 spread, .slice A3 labs.length c3] 26 (0, 0)) (by (with_reducible repeat (first | exact B3.out | refine blk_drewN ?_ _ | refine blk_drew ?_ | refine blk_alloc ?_ _))) hb); clear hb; (try clear p0 p1 p2 p3); (try clear lt_B3); have lt_B3 := blk_lt B3.out; obtain ⟨p0, p1, p2, p3⟩ := cells4 B3.out) | (go_at_call 18; (with_reducible refine (wakes_any _).mono ?_); rintro e w9 ⟨rfl, hb⟩; replace HB := Aside0.mk (below_step (by repeat (first | (with_reducible exact HB.out) | apply below_alloc | apply pw_below_drewN | apply below_drew1 | refine below_set ?_ (by omega))) hb); replace B3 := Aside0.mk (blk_below (g := W.heap.size) (o := .cells #[.slice A0 lots.length c0, .slice A1 samples.length c1, .int .i64 spread, .slice A3 labs.length c3] 26 (0, 0)) (by (with_reducible repeat (first | exact B3.out | refine blk_drewN ?_ _ | refine blk_drew ?_ | refine blk_alloc ?_ _))) hb); clear hb; (try clear p0 p1 p2 p3); (try clear lt_B3); have lt_B3 := blk_lt B3.out; obtain ⟨p0, p1, p2, p3⟩ := cells4 B3.out))
 go_ret
 exact ⟨rfl, HB.out⟩
def kd.T10 : Bool × List (List Nat × List Nat) := (true, [([], []), ([0], [0]), ([], []), ([2], [2]), ([], []), ([4], [4]), ([5], [5]), ([3, 6], [3, 6]), ([1, 7], [1, 7]), ([8, 0, 1, 2, 3, 4, 5, 6, 7, 8], [8])])
def kd.B10 : List Nat := [0, 1, 0, 4, 0, 16, 48, 124, 255, 511]
theorem kd.tab10 : rtab .any (opsOf Try.f9 10) = kd.T10 := by kernel_rfl
theorem kd.bits10 : waitsOk kd.T10.2 kd.B10 = true := by kernel_rfl
def kd.T11 : Bool × List (List Nat × List Nat) := (true, [([], []), ([], []), ([], []), ([2], [2]), ([3], [3]), ([4], [4]), ([], []), ([5, 6], [5, 6]), ([7], [7]), ([], []), ([9], [9]), ([10], [10]), ([11], [11]), ([], []), ([13], [13]), ([12, 14], [12, 14]), ([15], [15]), ([0, 0, 2, 3, 4, 5, 6, 7, 8, 12], [0]), ([17, 0, 2, 3, 4, 5, 6, 7, 8, 12], [17]), ([18, 8, 0, 2, 3, 4, 5, 6, 7, 8, 12], [8, 18]), ([1, 0, 1, 2, 3, 4, 5, 6, 7, 8, 9, 10, 11, 12, 13, 14, 15, 16, 17, 18, 19], [1]), ([20, 0, 1, 2, 3, 4, 5, 6, 7, 8, 9, 10, 11, 12, 13, 14, 15, 16, 17, 18, 19], [20]), ([21, 16, 19, 0, 1, 2, 3, 4, 5, 6, 7, 8, 9, 10, 11, 12, 13, 14, 15, 16, 17, 18, 19], [16, 21])])
def kd.B11 : List Nat := [0, 0, 0, 4, 12, 28, 0, 124, 252, 0, 512, 1536, 3584, 0, 8192, 32256, 65024, 8189, 139261, 401405, 1048575, 2097151, 4194303]
theorem kd.tab11 : rtab .any (opsOf Try.f9 11) = kd.T11 := by kernel_rfl
theorem kd.bits11 : waitsOk kd.T11.2 kd.B11 = true := by kernel_rfl
def kd.T13 : Bool × List (List Nat × List Nat) := (true, [([], []), ([0], [0]), ([], []), ([2], [2]), ([], []), ([4], [4]), ([5], [5]), ([3, 6], [3, 6]), ([1, 7], [1, 7]), ([8, 0, 1, 2, 3, 4, 5, 6, 7, 8], [8])])
def kd.B13 : List Nat := [0, 1, 0, 4, 0, 16, 48, 124, 255, 511]
theorem kd.tab13 : rtab .any (opsOf Try.f9 13) = kd.T13 := by kernel_rfl
theorem kd.bits13 : waitsOk kd.T13.2 kd.B13 = true := by kernel_rfl
def kd.T18 : Bool × List (List Nat × List Nat) := (true, [([], []), ([0], [0]), ([1], [1]), ([2], [2]), ([], []), ([], []), ([5], [5]), ([6], [6]), ([7], [7]), ([8], [8]), ([4, 9], [4, 9]), ([3, 10, 0, 1, 2, 3, 4, 5, 6, 7, 8, 9, 10], [3, 10]), ([11, 0, 1, 2, 3, 4, 5, 6, 7, 8, 9, 10], [11])])
def kd.B18 : List Nat := [0, 1, 3, 7, 0, 0, 32, 96, 224, 480, 1008, 2047, 4095]
theorem kd.tab18 : rtab .any (opsOf Try.f9 18) = kd.T18 := by kernel_rfl
theorem kd.bits18 : waitsOk kd.T18.2 kd.B18 = true := by kernel_rfl
set_option maxHeartbeats 4000000 in
set_option maxRecDepth 100000 in
theorem kinder_at {W : World} {v : Value} {A0 : Option Addr} {c0 : Nat} {lots : List S44} {A1 : Option Addr} {c1 : Nat} {samples : List Int} {spread : Int} {A3 : Option Addr} {c3 : Nat} {labs : List S62} (h : In26 W v A0 c0 lots A1 c1 samples spread A3 c3 labs) (bits which at_ by_ : Int) (hr : Ev (fun k => tensilelaw08_ready.f k lots samples spread labs) true) (h4 : lots.length ≤ 6) (h6 : labs.length ≤ 6) (hy0 : 0 ≤ by_) (hy1 : by_ < 256) (ha0 : 0 ≤ at_) (ha1 : at_ < 256) (hsp0 : 0 ≤ spread) (hsp1 : spread ≤ 100) (hok : RoundOk (lots.map m46) samples spread (labs.map m75)) (off : List Int) (hof : chosenF labs.length bits = off) (hol : off.length ≤ 6) (hfin : ∀ (lots2 : List S44) (sp2 : Int) (labs2 : List S62), RoundOk (lots2.map m46) samples sp2 (labs2.map m75) → Kinder (lots.map m46) (lots2.map m46) samples spread sp2 (labs.map m75) (labs2.map m75) → ∃ (a b : Bool), explainsF (lots.map m46) samples spread (labs.map m75) off = (a, 0) ∧ explainsF (lots2.map m46) samples sp2 (labs2.map m75) off = (b, 0) ∧ (a = true → b = true) ∧ ∃ ll mm : List Int, leastF (lots.map m46) samples spread (labs.map m75) = (ll, 0) ∧ leastF (lots2.map m46) samples sp2 (labs2.map m75) = (mm, 0) ∧ mm.length ≤ ll.length) :
  Calls Try.prog 9 #[.agg #[.slice A0 lots.length c0, .slice A1 samples.length c1, .int .i64 spread, .slice A3 labs.length c3], .int .u8 bits, .int .u8 which, .int .u8 at_, .int .u8 by_] W (RetB W (.bool true)) := by
 have HI := Aside0.mk h
 have HB := Aside0.mk (below_alloc (Below.refl _ W) (.cells #[.slice A0 lots.length c0, .slice A1 samples.length c1, .int .i64 spread, .slice A3 labs.length c3] 26))
 have B3 := Aside0.mk (blk_new W (.cells #[.slice A0 lots.length c0, .slice A1 samples.length c1, .int .i64 spread, .slice A3 labs.length c3] 26))
 obtain ⟨p0, p1, p2, p3⟩ := cells4 B3.out
 have lt_B3 := blk_lt B3.out
 have HRd := Aside0.mk hr
 have HOk := Aside0.mk hok
 have HTh := Aside0.mk (thin_of hok)
 have HOf := Aside0.mk hof
 have HFin := Aside0.mk hfin
 clear hok hof hfin
 obtain ⟨rl, hrl, hrC, hrK⟩ := raw_C' h.r0
 obtain ⟨rb, hbl, hbC, hbK⟩ := raw_C' h.r3
 have HRC := Aside0.mk hrC
 have HBC := Aside0.mk hbC
 have HRK := Aside0.mk hrK
 have HBK := Aside0.mk hbK
 have HRL := Aside0.mk hrl
 have HBL := Aside0.mk hbl
 clear h hr hrC hbC hrK hbK hrl hbl
 go_enter Try.func9, Try.ntmps9
 go_upto_region 4 with (first | (go_at_call 35; (with_reducible refine (ready_at (HI.out.below (by repeat (first | (with_reducible exact HB.out) | apply below_alloc | apply pw_below_drewN | apply below_drew1 | refine below_set ?_ (by omega)))) HRd.out).mono ?_); rintro e w1 ⟨rfl, hb⟩; replace HB := Aside0.mk (below_step (by repeat (first | (with_reducible exact HB.out) | apply below_alloc | apply pw_below_drewN | apply below_drew1 | refine below_set ?_ (by omega))) hb); replace B3 := Aside0.mk (blk_below (g := W.heap.size) (o := .cells #[.slice A0 lots.length c0, .slice A1 samples.length c1, .int .i64 spread, .slice A3 labs.length c3] 26 (0, 0)) (by (with_reducible repeat (first | exact B3.out | refine blk_drewN ?_ _ | refine blk_drew ?_ | refine blk_alloc ?_ _))) hb); clear hb; (try clear p0 p1 p2 p3); (try clear lt_B3); have lt_B3 := blk_lt B3.out; obtain ⟨p0, p1, p2, p3⟩ := cells4 B3.out))
 have BX := Aside0.mk (blk_new w1 (.cells #[.slice A0 lots.length c0, .slice A1 samples.length c1, .int .i64 spread, .slice A3 labs.length c3] 26))
 replace B3 := Aside0.mk (blk_alloc B3.out (.cells #[.slice A0 lots.length c0, .slice A1 samples.length c1, .int .i64 spread, .slice A3 labs.length c3] 26))
 replace HB := Aside0.mk (below_alloc HB.out (.cells #[.slice A0 lots.length c0, .slice A1 samples.length c1, .int .i64 spread, .slice A3 labs.length c3] 26))
 clear p0 p1 p2 p3
 obtain ⟨p0, p1, p2, p3⟩ := cells4 B3.out
 have lt_B3' := blk_lt B3.out
 generalize w1.alloc (.cells #[.slice A0 lots.length c0, .slice A1 samples.length c1, .int .i64 spread, .slice A3 labs.length c3] 26) = w2 at BX B3 HB p0 p1 p2 p3 lt_B3' ⊢
 have lt_BX := blk_lt BX.out
 go_upto_region 5 with (first | ((with_reducible refine gate_dst (N := 29) rfl ?_); refine Kd.R_lit (Kd.raw 2) _ 44 ?hg (N := 29) ?hd (xs := ([] : List (List Value))) (inner := []) (ok := fun _ => True) (okp := fun _ => True) ?hr ?hp (fun _ hk => hk) trivial (Below.refl _ _) (Nat.le_refl _) (by simp) ?_; (case hd => rfl); (case hg => rfl); (case hr => first | (go_simp; done) | (go_simp; rfl)); (case hp => exact (Reps.none _ _)); intro vE wE ho hb hg_ hnew_; clear hg_ hnew_; have HO := Aside0.mk (Kd.R_lower ho (below_size (by repeat (first | (with_reducible exact HB.out) | apply below_alloc | apply pw_below_drewN | apply below_drew1 | refine below_set ?_ (by omega))))); clear ho; replace B3 := Aside0.mk (blk_below (g := W.heap.size) (o := .cells #[.slice A0 lots.length c0, .slice A1 samples.length c1, .int .i64 spread, .slice A3 labs.length c3] 26 (0, 0)) (by (with_reducible repeat (first | exact B3.out | refine blk_drewN ?_ _ | refine blk_drew ?_ | refine blk_alloc ?_ _))) hb); replace BX := Aside0.mk (blk_below (g := w1.heap.size) (o := .cells #[.slice A0 lots.length c0, .slice A1 samples.length c1, .int .i64 spread, .slice A3 labs.length c3] 26 (0, 0)) (by (with_reducible repeat (first | exact BX.out | refine blk_drewN ?_ _ | refine blk_drew ?_ | refine blk_alloc ?_ _))) hb); replace HB := Aside0.mk (below_step (by repeat (first | (with_reducible exact HB.out) | apply below_alloc | apply pw_below_drewN | apply below_drew1 | refine below_set ?_ (by omega))) hb); clear hb p0 p1 p2 p3; obtain ⟨p0, p1, p2, p3⟩ := cells4 B3.out) | ((with_reducible refine gate_builtin (b := .append) (xs := #[.tmp 29, .tmp 31]) rfl ?_); at_builtin; refine Kd.R_append_rows (Kd.raw 2) (Rr := (Kd.raw 2).K W) (w0 := W) W.heap.size rfl (.tmp 29) (.tmp 31) 22 44 (.agg #[(.int .i64 0), (.int .i64 0)]) 16 rfl Try.underlying22 info44 rfl (by decide) (by omega) vE [] rl A0 _ _ (fun _ => True) (fun _ => False) rfl rfl ?aO ?aR (fun _ _ h => h) (fun _ h => h.elim) ?aF ?aB ?aS ?aL ?_; (case aR => exact Kd.C_below HRC.out (by repeat (first | (with_reducible exact HB.out) | apply below_alloc | apply pw_below_drewN | apply below_drew1 | refine below_set ?_ (by omega)))); (case aB => exact (by repeat (first | (with_reducible exact HB.out) | apply below_alloc | apply pw_below_drewN | apply below_drew1 | refine below_set ?_ (by omega)))); (case aF => exact fun _ _ => trivial); (case aO => (with_reducible repeat (first | apply Kd.R_alloc | apply Kd.R_drewN | apply Kd.R_drew)); exact HO.out); (case aS => exact below_size (by repeat (first | (with_reducible exact HB.out) | apply below_alloc | apply pw_below_drewN | apply below_drew1 | refine below_set ?_ (by omega)))); (case aL => simp only [List.length_nil]; omega); intro vA wA ho hb hg hat; rw [List.nil_append] at ho; have n3 := Aside0.mk (blk_grown (g := W.heap.size) (o := .cells #[.slice A0 lots.length c0, .slice A1 samples.length c1, .int .i64 spread, .slice A3 labs.length c3] 26 (0, 0)) (by (with_reducible repeat (first | exact B3.out | refine blk_drewN ?_ _ | refine blk_drew ?_ | refine blk_alloc ?_ _))) hg (Kd.R_ne HO.out B3.out (by decide))); have nX := Aside0.mk (blk_grown (g := w1.heap.size) (o := .cells #[.slice A0 lots.length c0, .slice A1 samples.length c1, .int .i64 spread, .slice A3 labs.length c3] 26 (0, 0)) (by (with_reducible repeat (first | exact BX.out | refine blk_drewN ?_ _ | refine blk_drew ?_ | refine blk_alloc ?_ _))) hg (Kd.R_ne HO.out BX.out (by decide))); have HL := Aside0.mk ho; clear ho; obtain ⟨Al, cl, el⟩ := Kd.R_slice HL.out; subst el; skip; clear B3 BX HB HO hg hat; have B3 := n3; have BX := nX; have HB := Aside0.mk hb; clear n3 nX hb p0 p1 p2 p3; obtain ⟨p0, p1, p2, p3⟩ := cells4 B3.out; have xc := blk_cell BX.out 0; have xz := blk_frozen BX.out 0))
 replace HL := Aside0.mk (Kd.R_mono (Kd.R_far (p := ⟨w1.heap.size, 0, none⟩) (Kd.R_types HL.out BX.out (by decide)) (fun _ hk => hk.2) (.slice Al rl.length cl)) (fun _ _ => trivial))
 replace B3 := Aside0.mk (blk_far (p := ⟨w1.heap.size, 0, none⟩) B3.out (by dsimp only; omega) (.slice Al rl.length cl))
 replace HB := Aside0.mk (below_set (g := w1.heap.size) (j := 0) (v := .slice Al rl.length cl) HB.out (by omega))
 replace BX := Aside0.mk (blk_put (cs := #[.slice A0 lots.length c0, .slice A1 samples.length c1, .int .i64 spread, .slice A3 labs.length c3]) (cs' := #[.slice Al rl.length cl, .slice A1 samples.length c1, .int .i64 spread, .slice A3 labs.length c3]) BX.out 0 (.slice Al rl.length cl) rfl)
 clear p0 p1 p2 p3 xc xz lt_BX
 generalize World.setCell wA ⟨w1.heap.size, 0, none⟩ (.slice Al rl.length cl) = w3 at B3 BX HB HL ⊢
 skip
 obtain ⟨p0, p1, p2, p3⟩ := cells4 B3.out
 have lt_BX := blk_lt BX.out
 go_upto_region 6 with (first | ((with_reducible refine gate_dst (N := 34) rfl ?_); refine Kd.R_lit (Kd.raw 2) _ 62 ?hg (N := 34) ?hd (xs := ([] : List (List Value))) (inner := []) (ok := fun _ => True) (okp := fun _ => True) ?hr ?hp (fun _ hk => hk) trivial (Below.refl _ _) (Nat.le_refl _) (by simp) ?_; (case hd => rfl); (case hg => rfl); (case hr => first | (go_simp; done) | (go_simp; rfl)); (case hp => exact (Reps.none _ _)); intro vE wE ho hb hg_ hnew_; clear hg_ hnew_; have HO := Aside0.mk (Kd.R_lower ho (below_size (by repeat (first | (with_reducible exact HB.out) | apply below_alloc | apply pw_below_drewN | apply below_drew1 | refine below_set ?_ (by omega))))); clear ho; replace B3 := Aside0.mk (blk_below (g := W.heap.size) (o := .cells #[.slice A0 lots.length c0, .slice A1 samples.length c1, .int .i64 spread, .slice A3 labs.length c3] 26 (0, 0)) (by (with_reducible repeat (first | exact B3.out | refine blk_drewN ?_ _ | refine blk_drew ?_ | refine blk_alloc ?_ _))) hb); replace BX := Aside0.mk (blk_below (g := w1.heap.size) (o := .cells #[.slice Al rl.length cl, .slice A1 samples.length c1, .int .i64 spread, .slice A3 labs.length c3] 26 (0, 0)) (by (with_reducible repeat (first | exact BX.out | refine blk_drewN ?_ _ | refine blk_drew ?_ | refine blk_alloc ?_ _))) hb); replace HL := Aside0.mk (Kd.R_below (by (with_reducible repeat (first | apply Kd.R_alloc | apply Kd.R_drewN | apply Kd.R_drew)); exact HL.out) hb); replace HB := Aside0.mk (below_step (by repeat (first | (with_reducible exact HB.out) | apply below_alloc | apply pw_below_drewN | apply below_drew1 | refine below_set ?_ (by omega))) hb); clear hb p0 p1 p2 p3; obtain ⟨p0, p1, p2, p3⟩ := cells4 B3.out) | ((with_reducible refine gate_builtin (b := .append) (xs := #[.tmp 34, .tmp 36]) rfl ?_); at_builtin; refine Kd.R_append_rows (Kd.raw 2) (Rr := (Kd.raw 2).K W) (w0 := W) W.heap.size rfl (.tmp 34) (.tmp 36) 24 62 (.agg #[(.int .i64 0), (.slice none 0 0)]) 32 rfl Try.underlying24 info62 rfl (by decide) (by omega) vE [] rb A3 _ _ (fun _ => True) (fun _ => False) rfl rfl ?aO ?aR (fun _ _ h => h) (fun _ h => h.elim) ?aF ?aB ?aS ?aL ?_; (case aR => exact Kd.C_below HBC.out (by repeat (first | (with_reducible exact HB.out) | apply below_alloc | apply pw_below_drewN | apply below_drew1 | refine below_set ?_ (by omega)))); (case aB => exact (by repeat (first | (with_reducible exact HB.out) | apply below_alloc | apply pw_below_drewN | apply below_drew1 | refine below_set ?_ (by omega)))); (case aF => exact fun _ _ => trivial); (case aO => (with_reducible repeat (first | apply Kd.R_alloc | apply Kd.R_drewN | apply Kd.R_drew)); exact HO.out); (case aS => exact below_size (by repeat (first | (with_reducible exact HB.out) | apply below_alloc | apply pw_below_drewN | apply below_drew1 | refine below_set ?_ (by omega)))); (case aL => simp only [List.length_nil]; omega); intro vA wA ho hb hg hat; rw [List.nil_append] at ho; have n3 := Aside0.mk (blk_grown (g := W.heap.size) (o := .cells #[.slice A0 lots.length c0, .slice A1 samples.length c1, .int .i64 spread, .slice A3 labs.length c3] 26 (0, 0)) (by (with_reducible repeat (first | exact B3.out | refine blk_drewN ?_ _ | refine blk_drew ?_ | refine blk_alloc ?_ _))) hg (Kd.R_ne HO.out B3.out (by decide))); have nX := Aside0.mk (blk_grown (g := w1.heap.size) (o := .cells #[.slice Al rl.length cl, .slice A1 samples.length c1, .int .i64 spread, .slice A3 labs.length c3] 26 (0, 0)) (by (with_reducible repeat (first | exact BX.out | refine blk_drewN ?_ _ | refine blk_drew ?_ | refine blk_alloc ?_ _))) hg (Kd.R_ne HO.out BX.out (by decide))); replace HL := Aside0.mk (Kd.R_over' (by (with_reducible repeat (first | apply Kd.R_alloc | apply Kd.R_drewN | apply Kd.R_drew)); exact HL.out) (Kd.R_typed (by (with_reducible repeat (first | apply Kd.R_alloc | apply Kd.R_drewN | apply Kd.R_drew)); exact HO.out)) (by decide) hg); have HBb := Aside0.mk ho; clear ho; obtain ⟨Ab, cb, eb⟩ := Kd.R_slice HBb.out; subst eb; skip; clear B3 BX HB HO hg hat; have B3 := n3; have BX := nX; have HB := Aside0.mk hb; clear n3 nX hb p0 p1 p2 p3; obtain ⟨p0, p1, p2, p3⟩ := cells4 B3.out; have xc := blk_cell BX.out 3; have xz := blk_frozen BX.out 3))
 replace HBb := Aside0.mk (Kd.R_mono (Kd.R_far (p := ⟨w1.heap.size, 3, none⟩) (Kd.R_types HBb.out BX.out (by decide)) (fun _ hk => hk.2) (.slice Ab rb.length cb)) (fun _ _ => trivial))
 replace HL := Aside0.mk (Kd.R_mono (Kd.R_far (p := ⟨w1.heap.size, 3, none⟩) (Kd.R_types HL.out BX.out (by decide)) (fun _ hk => hk.2) (.slice Ab rb.length cb)) (fun _ _ => trivial))
 replace B3 := Aside0.mk (blk_far (p := ⟨w1.heap.size, 3, none⟩) B3.out (by dsimp only; omega) (.slice Ab rb.length cb))
 replace HB := Aside0.mk (below_set (g := w1.heap.size) (j := 3) (v := .slice Ab rb.length cb) HB.out (by omega))
 replace BX := Aside0.mk (blk_put (cs := #[.slice Al rl.length cl, .slice A1 samples.length c1, .int .i64 spread, .slice A3 labs.length c3]) (cs' := #[.slice Al rl.length cl, .slice A1 samples.length c1, .int .i64 spread, .slice Ab rb.length cb]) BX.out 3 (.slice Ab rb.length cb) rfl)
 clear p0 p1 p2 p3 xc xz lt_BX
 generalize World.setCell wA ⟨w1.heap.size, 3, none⟩ (.slice Ab rb.length cb) = w4 at B3 BX HB HBb HL ⊢
 skip
 obtain ⟨p0, p1, p2, p3⟩ := cells4 B3.out
 have lt_BX := blk_lt BX.out
 replace HL := Aside0.mk (show (Kd.raw 2).R 44 w4 W.heap.size (fun _ => True) (.slice Al lots.length cl) rl by have := HL.out; rwa [HRL.out] at this)
 replace HBb := Aside0.mk (show (Kd.raw 2).R 62 w4 W.heap.size (fun _ => True) (.slice Ab labs.length cb) rb by have := HBb.out; rwa [HBL.out] at this)
 replace BX := Aside0.mk (show w4.heap[w1.heap.size]? = some (.cells #[.slice Al lots.length cl, .slice A1 samples.length c1, .int .i64 spread, .slice Ab labs.length cb] 26 (0, 0)) by have := BX.out; rwa [HRL.out, HBL.out] at this)
 clear HRC HBC
 have e1 : IntKind.i64.wrap by_ = by_ := IntWalk.i64_in _ (by omega)
 have e2 : IntKind.i64.wrap at_ = at_ := IntWalk.i64_in _ (by omega)
 obtain ⟨n, hn⟩ : ∃ n, Int.tmod by_ 20 = n := ⟨_, rfl⟩
 have n0 := Int.tmod_nonneg 20 hy0
 have n1 := Int.tmod_lt_of_pos by_ (show (0 : Int) < 20 by omega)
 rw [hn] at n0 n1
 go_upto_block 0 with fail
 go_cut [] (fun wc => ∃ (lots2 : List S44) (sp2 : Int) (labs2 : List S62) (Ax : Option Addr) (cx : Nat) (Ay : Option Addr) (cy : Nat), Aside0 (RoundOk (lots2.map m46) samples sp2 (labs2.map m75) ∧ Kinder (lots.map m46) (lots2.map m46) samples spread sp2 (labs.map m75) (labs2.map m75)) ∧ Aside0 (In26 wc (.agg #[.slice Ax lots2.length cx, .slice A1 samples.length c1, .int .i64 sp2, .slice Ay labs2.length cy]) Ax cx lots2 A1 c1 samples sp2 Ay cy labs2) ∧ Aside0 (wc.heap[w1.heap.size]? = some (.cells #[.slice Ax lots2.length cx, .slice A1 samples.length c1, .int .i64 sp2, .slice Ay labs2.length cy] 26 (0, 0))) ∧ Aside0 (wc.heap[W.heap.size]? = some (.cells #[.slice A0 lots.length c0, .slice A1 samples.length c1, .int .i64 spread, .slice A3 labs.length c3] 26 (0, 0))) ∧ Aside0 (Below W.heap.size W wc))
 case first =>
  by_cases hq0 : Int.tmod which 4 = 0
  ·have f0 : (Int.tmod which 4 == 0) = true := beq_iff_eq.2 hq0
   have xc := blk_cell BX.out 2
   have xz := blk_frozen BX.out 2
   have e3 : IntKind.i64.wrap (spread + n) = spread + n := IntWalk.i64_in _ (by omega)
   clear hq0
   go_wp2
   ·go_meet
    case rel =>
     have hs : ∀ {e : Nat} {v : Value} {xs : List (List Value)} (h : (Kd.raw 2).R e w4 W.heap.size (fun _ => True) v xs) (he : ∀ q, q ∈ e :: (Kd.raw 2).E → q ≠ 26) (u : Value), (Kd.raw 2).R e (w4.setCell ⟨w1.heap.size, 2, none⟩ u) W.heap.size (fun _ => True) v xs := fun h he u => Kd.R_mono (Kd.R_far (p := ⟨w1.heap.size, 2, none⟩) (Kd.R_types h BX.out he) (fun _ hk => hk.2) u) (fun _ _ => trivial)
     have hK := kinder_spread (spread' := spread + n) HOk.out (by omega) (by omega)
     have hB2 : Below W.heap.size W (w4.setCell ⟨w1.heap.size, 2, none⟩ (.int .i64 (spread + n))) := below_set HB.out (by omega)
     exact ⟨lots, spread + n, labs, Al, cl, Ab, cb, ⟨hK⟩, ⟨kin_in HI.out hB2 (hs HL.out (by decide) _) (hs HBb.out (by decide) _) (fun j p hp => by obtain ⟨c, hc, hk⟩ := HRK.out j p hp; exact ⟨c, hc, k44.K_below hB2 hk⟩) (fun j p hp => by obtain ⟨c, hc, hk⟩ := HBK.out j p hp; exact ⟨c, hc, k62.K_below hB2 hk⟩) h4 h6 HI.out.d⟩, ⟨blk_put (cs := #[.slice Al lots.length cl, .slice A1 samples.length c1, .int .i64 spread, .slice Ab labs.length cb]) BX.out 2 _ rfl⟩, ⟨blk_far B3.out (by dsimp only; omega) _⟩, ⟨hB2⟩⟩
   ·go_meet
    case rel =>
     have hs : ∀ {e : Nat} {v : Value} {xs : List (List Value)} (h : (Kd.raw 2).R e w4 W.heap.size (fun _ => True) v xs) (he : ∀ q, q ∈ e :: (Kd.raw 2).E → q ≠ 26) (u : Value), (Kd.raw 2).R e (w4.setCell ⟨w1.heap.size, 2, none⟩ u) W.heap.size (fun _ => True) v xs := fun h he u => Kd.R_mono (Kd.R_far (p := ⟨w1.heap.size, 2, none⟩) (Kd.R_types h BX.out he) (fun _ hk => hk.2) u) (fun _ _ => trivial)
     have hK := kinder_spread (spread' := 100) HOk.out (by omega) (by omega)
     have hB2 : Below W.heap.size W (w4.setCell ⟨w1.heap.size, 2, none⟩ (.int .i64 (100))) := below_set HB.out (by omega)
     exact ⟨lots, 100, labs, Al, cl, Ab, cb, ⟨hK⟩, ⟨kin_in HI.out hB2 (hs HL.out (by decide) _) (hs HBb.out (by decide) _) (fun j p hp => by obtain ⟨c, hc, hk⟩ := HRK.out j p hp; exact ⟨c, hc, k44.K_below hB2 hk⟩) (fun j p hp => by obtain ⟨c, hc, hk⟩ := HBK.out j p hp; exact ⟨c, hc, k62.K_below hB2 hk⟩) h4 h6 HI.out.d⟩, ⟨blk_put (cs := #[.slice Al lots.length cl, .slice A1 samples.length c1, .int .i64 spread, .slice Ab labs.length cb]) BX.out 2 _ rfl⟩, ⟨blk_far B3.out (by dsimp only; omega) _⟩, ⟨hB2⟩⟩
  ·have f0 : (Int.tmod which 4 == 0) = false := beq_eq_false_iff_ne.2 hq0
   by_cases hq1 : Int.tmod which 4 = 1
   ·have f1 : (Int.tmod which 4 == 1) = true := beq_iff_eq.2 hq1
    have xc := blk_cell BX.out 0
    have l0p := HOk.out.l0
    rw [List.length_map] at l0p
    obtain ⟨gl, cul, hAl, hlg, hlh, hln, hlc, hlr⟩ := raw_open HL.out (by have := HRL.out; omega)
    subst hAl
    have HGL := Aside0.mk hlh
    have HLR := Aside0.mk hlr
    have HCL := Aside0.mk hlc
    clear hlh hlr hln hlc
    have hk0 := Int.tmod_nonneg (lots.length : Int) ha0
    have hk1 := Int.tmod_lt_of_pos at_ (show (0 : Int) < lots.length by omega)
    obtain ⟨k, hk⟩ : ∃ k, Int.tmod at_ (lots.length : Int) = k := ⟨_, rfl⟩
    rw [hk] at hk0 hk1
    have g1 : ((lots.length : Int) == 0) = false := beq_eq_false_iff_ne.2 (by omega)
    have g2 : ¬ (lots = []) := fun h_ => by rw [h_] at l0p; exact absurd l0p (by decide)
    have p0' : (0 ≤ k) = True := eq_true hk0
    have p1' : (k < (lots.length : Int)) = True := eq_true hk1
    clear hq0 hq1
    go_wp2
    refine start_ (n := 10) (S := fun w' => w'.cell? ⟨w1.heap.size, 0, none⟩ = some (.slice (some ⟨gl, 0, none⟩) lots.length cl)) (ds := []) #[false, false, false, false, false, false, false, false, false, false] (by kernel_rfl) rfl rfl ((blk_cell (blk_drew BX.out) 0).trans rfl) (fun hHeld => ?_)
    refine with_tabW kd.tab10 kd.bits10 (fun HT_ HW_ => ?_)
    replace BX := Aside0.mk (blk_drew BX.out)
    replace B3 := Aside0.mk (blk_drew B3.out)
    replace HB := Aside0.mk (below_drew1 HB.out)
    replace HBb := Aside0.mk (Kd.R_drew HBb.out)
    replace HGL := Aside0.mk (blk_drew HGL.out)
    generalize w4.drew = w5 at BX B3 HB HBb HGL hHeld ⊢
    refine pure_ (i := 0) (N := some 56) (v := ?_) (a' := ?_) #[true, false, false, false, false, false, false, false, false, false] rfl rfl (any_of HT_.out (by kernel_rfl)) (fun _ _ _ h => h) (Or.inl ⟨by rfl, ?_⟩) ?_ ?_
    rotate_left
    ·intro w'
     go_simp
     with_reducible rfl
    rotate_left
    ·simp only [Act.put, List.setIfInBounds_toArray, List.set_cons_zero, List.set_cons_succ, i64_w, i32_w]
     rfl
    refine pure_ (i := 2) (N := some 58) (v := ?_) (a' := ?_) #[true, false, true, false, false, false, false, false, false, false] rfl rfl (any_of HT_.out (by kernel_rfl)) (fun _ _ _ h => h) (Or.inl ⟨by rfl, ?_⟩) ?_ ?_
    rotate_left
    ·intro w'
     go_simp
     with_reducible rfl
    rotate_left
    ·simp only [Act.put, List.setIfInBounds_toArray, List.set_cons_zero, List.set_cons_succ, i64_w, i32_w]
     rfl
    refine pure_ (i := 3) (N := some 59) (v := ?_) (a' := ?_) #[true, false, true, true, false, false, false, false, false, false] rfl rfl (any_of HT_.out (by kernel_rfl)) (fun _ _ _ h => h) (Or.inl ⟨by rfl, ?_⟩) ?_ ?_
    rotate_left
    ·intro w'
     go_simp
     with_reducible rfl
    rotate_left
    ·simp only [Act.put, List.setIfInBounds_toArray, List.set_cons_zero, List.set_cons_succ, i64_w, i32_w]
     rfl
    refine pure_ (i := 4) (N := some 60) (v := ?_) (a' := ?_) #[true, false, true, true, true, false, false, false, false, false] rfl rfl (any_of HT_.out (by kernel_rfl)) (fun _ _ _ h => h) (Or.inl ⟨by rfl, ?_⟩) ?_ ?_
    rotate_left
    ·intro w'
     go_simp
     with_reducible rfl
    rotate_left
    ·simp only [Act.put, List.setIfInBounds_toArray, List.set_cons_zero, List.set_cons_succ, i64_w, i32_w]
     rfl
    refine take_ (i := 1) (N := some 57) (v := ?_) (a' := ?_) #[true, true, true, true, true, false, false, false, false, false] rfl rfl (take_ofW HT_.out HW_.out (by kernel_rfl)) (fun _ _ _ h => h) (Or.inl ⟨by rfl, ?_⟩) hHeld ?_ ?_
    rotate_left
    ·intro w' s0
     go_simp
     with_reducible rfl
    rotate_left
    ·simp only [Act.put, List.setIfInBounds_toArray, List.set_cons_zero, List.set_cons_succ, i64_w, i32_w]
     rfl
    refine take_ (i := 5) (N := some 61) (v := ?_) (a' := ?_) #[true, true, true, true, true, true, false, false, false, false] rfl rfl (take_ofW HT_.out HW_.out (by kernel_rfl)) (fun _ _ _ h => h) (Or.inl ⟨by rfl, ?_⟩) hHeld ?_ ?_
    rotate_left
    ·intro w' s0
     go_simp
     with_reducible rfl
    rotate_left
    ·simp only [Act.put, List.setIfInBounds_toArray, List.set_cons_zero, List.set_cons_succ, i64_w, i32_w]
     rfl
    refine pure_ (i := 6) (N := some 62) (v := ?_) (a' := ?_) #[true, true, true, true, true, true, true, false, false, false] rfl rfl (any_of HT_.out (by kernel_rfl)) (fun _ _ _ h => h) (Or.inl ⟨by rfl, ?_⟩) ?_ ?_
    rotate_left
    ·intro w'
     go_simp
     with_reducible rfl
    rotate_left
    ·simp only [Act.put, List.setIfInBounds_toArray, List.set_cons_zero, List.set_cons_succ, i64_w, i32_w]
     rfl
    refine pure_ (i := 7) (N := some 63) (v := ?_) (a' := ?_) #[true, true, true, true, true, true, true, true, false, false] rfl rfl (any_of HT_.out (by kernel_rfl)) (fun _ _ _ h => h) (Or.inl ⟨by rfl, ?_⟩) ?_ ?_
    rotate_left
    ·intro w'
     go_simp
     with_reducible rfl
    rotate_left
    ·simp only [Act.put, List.setIfInBounds_toArray, List.set_cons_zero, List.set_cons_succ, i64_w, i32_w]
     rfl
    refine pure_ (i := 8) (N := some 64) (v := ?_) (a' := ?_) #[true, true, true, true, true, true, true, true, true, false] rfl rfl (any_of HT_.out (by kernel_rfl)) (fun _ _ _ h => h) (Or.inl ⟨by rfl, ?_⟩) ?_ ?_
    rotate_left
    ·intro w'
     go_simp
     with_reducible rfl
    rotate_left
    ·simp only [Act.put, List.setIfInBounds_toArray, List.set_cons_zero, List.set_cons_succ, i64_w, i32_w]
     rfl
    refine pure_ (i := 9) (N := some 13) (v := ?_) (a' := ?_) #[true, true, true, true, true, true, true, true, true, true] rfl rfl (any_of HT_.out (by kernel_rfl)) (fun _ _ _ h => h) (Or.inl ⟨by rfl, ?_⟩) ?_ ?_
    rotate_left
    ·intro w'
     go_simp
     with_reducible rfl
    rotate_left
    ·simp only [Act.put, List.setIfInBounds_toArray, List.set_cons_zero, List.set_cons_succ, i64_w, i32_w]
     rfl
    refine done_ (done_of HT_.out (by kernel_rfl)) ?_
    obtain ⟨K, rfl⟩ : ∃ K : Nat, k = (K : Int) := ⟨k.toNat, by omega⟩
    obtain ⟨r0, hr0, hrK⟩ := HRK.out K (lots.getD K z44) (by rw [List.getD_eq_getElem?_getD, List.getElem?_eq_getElem (by omega)]; rfl)
    obtain ⟨q0, q1, q2⟩ := HLR.out K r0 hr0
    have e0 := k44_open hrK
    obtain ⟨ha, hb, hc⟩ := HOk.out.lot _ (List.mem_map_of_mem (show lots.getD K z44 ∈ lots by rw [List.getD_eq_getElem?_getD, List.getElem?_eq_getElem (by omega)]; exact List.getElem_mem _))
    have ha : 0 ≤ (lots.getD K z44).f0 := ha
    have hb : (lots.getD K z44).f0 ≤ (lots.getD K z44).f1 := hb
    have hc : (lots.getD K z44).f1 ≤ 1000 := hc
    obtain ⟨lo, hlo⟩ : ∃ t, (lots.getD K z44).f0 = t := ⟨_, rfl⟩
    obtain ⟨hi, hhi⟩ : ∃ t, (lots.getD K z44).f1 = t := ⟨_, rfl⟩
    have hc0 : w5.cell? ⟨gl, K * 2, none⟩ = some (.int .i64 lo) := (blk_cell HGL.out _).trans (q2 0 _ (by rw [e0, hlo]; rfl))
    have hc1 : w5.cell? ⟨gl, K * 2 + 1, none⟩ = some (.int .i64 hi) := (blk_cell HGL.out _).trans (q2 1 _ (by rw [e0, hhi]; rfl))
    have hz0 := blk_frozen HGL.out (K * 2)
    have hz1 := blk_frozen HGL.out (K * 2 + 1)
    rw [hlo] at ha hb
    rw [hhi] at hb hc
    have HLo := Aside0.mk hlo
    have HHi := Aside0.mk hhi
    obtain ⟨n7, hn7⟩ : ∃ t, Int.tmod n 7 = t := ⟨_, rfl⟩
    have h70 := Int.tmod_nonneg 7 n0
    have h71 := Int.tmod_lt_of_pos n (show (0 : Int) < 7 by omega)
    rw [hn7] at h70 h71
    have e5 : IntKind.i64.wrap (lo - n) = lo - n := IntWalk.i64_in _ (by omega)
    have e6 : IntKind.i64.wrap (hi + n7) = hi + n7 := IntWalk.i64_in _ (by omega)
    clear hr0 hrK q0 q1 q2 e0 hlo hhi
    go_wp2
    refine start_ (n := 23) (S := fun w' => w'.cell? ⟨gl, K * 2, none⟩ = some (.int .i64 lo) ∧ w'.cell? ⟨gl, K * 2 + 1, none⟩ = some (.int .i64 hi)) (ds := [19, 22]) #[false, false, false, false, false, false, false, false, false, false, false, false, false, false, false, false, false, false, false, false, false, false, false] (by kernel_rfl) rfl rfl ⟨hc0, hc1⟩ (fun hHeld => ?_)
    refine with_tabW kd.tab11 kd.bits11 (fun HT_ HW_ => ?_)
    replace BX := Aside0.mk (blk_drew BX.out)
    replace B3 := Aside0.mk (blk_drew B3.out)
    replace HB := Aside0.mk (below_drew1 HB.out)
    replace HBb := Aside0.mk (Kd.R_drew HBb.out)
    replace HGL := Aside0.mk (blk_drew HGL.out)
    replace hz0 := blk_frozen HGL.out (K * 2)
    replace hz1 := blk_frozen HGL.out (K * 2 + 1)
    generalize w5.drew = w6 at BX B3 HB HBb HGL hz0 hz1 hHeld ⊢
    refine pure_ (i := 0) (N := some 65) (v := ?_) (a' := ?_) #[true, false, false, false, false, false, false, false, false, false, false, false, false, false, false, false, false, false, false, false, false, false, false] rfl rfl (any_of HT_.out (by kernel_rfl)) (fun _ _ _ h => h) (Or.inl ⟨by rfl, ?_⟩) ?_ ?_
    rotate_left
    ·intro w'
     go_simp
     with_reducible rfl
    rotate_left
    ·simp only [Act.put, List.setIfInBounds_toArray, List.set_cons_zero, List.set_cons_succ, i64_w, i32_w]
     rfl
    refine pure_ (i := 1) (N := some 66) (v := ?_) (a' := ?_) #[true, true, false, false, false, false, false, false, false, false, false, false, false, false, false, false, false, false, false, false, false, false, false] rfl rfl (any_of HT_.out (by kernel_rfl)) (fun _ _ _ h => h) (Or.inl ⟨by rfl, ?_⟩) ?_ ?_
    rotate_left
    ·intro w'
     go_simp
     with_reducible rfl
    rotate_left
    ·simp only [Act.put, List.setIfInBounds_toArray, List.set_cons_zero, List.set_cons_succ, i64_w, i32_w]
     rfl
    refine pure_ (i := 2) (N := some 67) (v := ?_) (a' := ?_) #[true, true, true, false, false, false, false, false, false, false, false, false, false, false, false, false, false, false, false, false, false, false, false] rfl rfl (any_of HT_.out (by kernel_rfl)) (fun _ _ _ h => h) (Or.inl ⟨by rfl, ?_⟩) ?_ ?_
    rotate_left
    ·intro w'
     go_simp
     with_reducible rfl
    rotate_left
    ·simp only [Act.put, List.setIfInBounds_toArray, List.set_cons_zero, List.set_cons_succ, i64_w, i32_w]
     rfl
    refine pure_ (i := 3) (N := some 68) (v := ?_) (a' := ?_) #[true, true, true, true, false, false, false, false, false, false, false, false, false, false, false, false, false, false, false, false, false, false, false] rfl rfl (any_of HT_.out (by kernel_rfl)) (fun _ _ _ h => h) (Or.inl ⟨by rfl, ?_⟩) ?_ ?_
    rotate_left
    ·intro w'
     go_simp
     with_reducible rfl
    rotate_left
    ·simp only [Act.put, List.setIfInBounds_toArray, List.set_cons_zero, List.set_cons_succ, i64_w, i32_w]
     rfl
    refine pure_ (i := 4) (N := some 69) (v := ?_) (a' := ?_) #[true, true, true, true, true, false, false, false, false, false, false, false, false, false, false, false, false, false, false, false, false, false, false] rfl rfl (any_of HT_.out (by kernel_rfl)) (fun _ _ _ h => h) (Or.inl ⟨by rfl, ?_⟩) ?_ ?_
    rotate_left
    ·intro w'
     go_simp
     with_reducible rfl
    rotate_left
    ·simp only [Act.put, List.setIfInBounds_toArray, List.set_cons_zero, List.set_cons_succ, i64_w, i32_w]
     rfl
    refine pure_ (i := 6) (N := some 71) (v := ?_) (a' := ?_) #[true, true, true, true, true, false, true, false, false, false, false, false, false, false, false, false, false, false, false, false, false, false, false] rfl rfl (any_of HT_.out (by kernel_rfl)) (fun _ _ _ h => h) (Or.inl ⟨by rfl, ?_⟩) ?_ ?_
    rotate_left
    ·intro w'
     go_simp
     with_reducible rfl
    rotate_left
    ·simp only [Act.put, List.setIfInBounds_toArray, List.set_cons_zero, List.set_cons_succ, i64_w, i32_w]
     rfl
    refine pure_ (i := 9) (N := some 74) (v := ?_) (a' := ?_) #[true, true, true, true, true, false, true, false, false, true, false, false, false, false, false, false, false, false, false, false, false, false, false] rfl rfl (any_of HT_.out (by kernel_rfl)) (fun _ _ _ h => h) (Or.inl ⟨by rfl, ?_⟩) ?_ ?_
    rotate_left
    ·intro w'
     go_simp
     with_reducible rfl
    rotate_left
    ·simp only [Act.put, List.setIfInBounds_toArray, List.set_cons_zero, List.set_cons_succ, i64_w, i32_w]
     rfl
    refine pure_ (i := 10) (N := some 75) (v := ?_) (a' := ?_) #[true, true, true, true, true, false, true, false, false, true, true, false, false, false, false, false, false, false, false, false, false, false, false] rfl rfl (any_of HT_.out (by kernel_rfl)) (fun _ _ _ h => h) (Or.inl ⟨by rfl, ?_⟩) ?_ ?_
    rotate_left
    ·intro w'
     go_simp
     with_reducible rfl
    rotate_left
    ·simp only [Act.put, List.setIfInBounds_toArray, List.set_cons_zero, List.set_cons_succ, i64_w, i32_w]
     rfl
    refine pure_ (i := 11) (N := some 76) (v := ?_) (a' := ?_) #[true, true, true, true, true, false, true, false, false, true, true, true, false, false, false, false, false, false, false, false, false, false, false] rfl rfl (any_of HT_.out (by kernel_rfl)) (fun _ _ _ h => h) (Or.inl ⟨by rfl, ?_⟩) ?_ ?_
    rotate_left
    ·intro w'
     go_simp
     with_reducible rfl
    rotate_left
    ·simp only [Act.put, List.setIfInBounds_toArray, List.set_cons_zero, List.set_cons_succ, i64_w, i32_w]
     rfl
    refine pure_ (i := 13) (N := some 78) (v := ?_) (a' := ?_) #[true, true, true, true, true, false, true, false, false, true, true, true, false, true, false, false, false, false, false, false, false, false, false] rfl rfl (any_of HT_.out (by kernel_rfl)) (fun _ _ _ h => h) (Or.inl ⟨by rfl, ?_⟩) ?_ ?_
    rotate_left
    ·intro w'
     go_simp
     with_reducible rfl
    rotate_left
    ·simp only [Act.put, List.setIfInBounds_toArray, List.set_cons_zero, List.set_cons_succ, i64_w, i32_w]
     rfl
    refine pure_ (i := 14) (N := some 79) (v := ?_) (a' := ?_) #[true, true, true, true, true, false, true, false, false, true, true, true, false, true, true, false, false, false, false, false, false, false, false] rfl rfl (any_of HT_.out (by kernel_rfl)) (fun _ _ _ h => h) (Or.inl ⟨by rfl, ?_⟩) ?_ ?_
    rotate_left
    ·intro w'
     go_simp
     with_reducible rfl
    rotate_left
    ·simp only [Act.put, List.setIfInBounds_toArray, List.set_cons_zero, List.set_cons_succ, i64_w, i32_w]
     rfl
    refine take_ (i := 5) (N := some 70) (v := ?_) (a' := ?_) #[true, true, true, true, true, true, true, false, false, true, true, true, false, true, true, false, false, false, false, false, false, false, false] rfl rfl (take_ofW HT_.out HW_.out (by kernel_rfl)) (fun _ _ _ h => h) (Or.inl ⟨by rfl, ?_⟩) hHeld ?_ ?_
    rotate_left
    ·rintro w' ⟨s0, s1⟩
     go_simp
     with_reducible rfl
    rotate_left
    ·simp only [Act.put, List.setIfInBounds_toArray, List.set_cons_zero, List.set_cons_succ, i64_w, i32_w]
     rfl
    refine pure_ (i := 7) (N := some 72) (v := ?_) (a' := ?_) #[true, true, true, true, true, true, true, true, false, true, true, true, false, true, true, false, false, false, false, false, false, false, false] rfl rfl (any_of HT_.out (by kernel_rfl)) (fun _ _ _ h => h) (Or.inl ⟨by rfl, ?_⟩) ?_ ?_
    rotate_left
    ·intro w'
     go_simp
     with_reducible rfl
    rotate_left
    ·simp only [Act.put, List.setIfInBounds_toArray, List.set_cons_zero, List.set_cons_succ, i64_w, i32_w]
     rfl
    refine pure_ (i := 8) (N := some 73) (v := ?_) (a' := ?_) #[true, true, true, true, true, true, true, true, true, true, true, true, false, true, true, false, false, false, false, false, false, false, false] rfl rfl (any_of HT_.out (by kernel_rfl)) (fun _ _ _ h => h) (Or.inl ⟨by rfl, ?_⟩) ?_ ?_
    rotate_left
    ·intro w'
     go_simp
     with_reducible rfl
    rotate_left
    ·simp only [Act.put, List.setIfInBounds_toArray, List.set_cons_zero, List.set_cons_succ, i64_w, i32_w]
     rfl
    refine take_ (i := 12) (N := some 77) (v := ?_) (a' := ?_) #[true, true, true, true, true, true, true, true, true, true, true, true, true, true, true, false, false, false, false, false, false, false, false] rfl rfl (take_ofW HT_.out HW_.out (by kernel_rfl)) (fun _ _ _ h => h) (Or.inl ⟨by rfl, ?_⟩) hHeld ?_ ?_
    rotate_left
    ·rintro w' ⟨s0, s1⟩
     go_simp
     with_reducible rfl
    rotate_left
    ·simp only [Act.put, List.setIfInBounds_toArray, List.set_cons_zero, List.set_cons_succ, i64_w, i32_w]
     rfl
    refine pure_ (i := 15) (N := some 80) (v := ?_) (a' := ?_) #[true, true, true, true, true, true, true, true, true, true, true, true, true, true, true, true, false, false, false, false, false, false, false] rfl rfl (any_of HT_.out (by kernel_rfl)) (fun _ _ _ h => h) (Or.inl ⟨by rfl, ?_⟩) ?_ ?_
    rotate_left
    ·intro w'
     go_simp
     with_reducible rfl
    rotate_left
    ·simp only [Act.put, List.setIfInBounds_toArray, List.set_cons_zero, List.set_cons_succ, i64_w, i32_w]
     rfl
    refine pure_ (i := 16) (N := some 81) (v := ?_) (a' := ?_) #[true, true, true, true, true, true, true, true, true, true, true, true, true, true, true, true, true, false, false, false, false, false, false] rfl rfl (any_of HT_.out (by kernel_rfl)) (fun _ _ _ h => h) (Or.inl ⟨by rfl, ?_⟩) ?_ ?_
    rotate_left
    ·intro w'
     go_simp
     with_reducible rfl
    rotate_left
    ·simp only [Act.put, List.setIfInBounds_toArray, List.set_cons_zero, List.set_cons_succ, i64_w, i32_w]
     rfl
    refine pure_ (i := 17) (N := some 82) (v := ?_) (a' := ?_) #[true, true, true, true, true, true, true, true, true, true, true, true, true, true, true, true, true, true, false, false, false, false, false] rfl rfl (any_of HT_.out (by kernel_rfl)) (fun _ _ _ h => h) (Or.inl ⟨by rfl, ?_⟩) ?_ ?_
    rotate_left
    ·intro w'
     go_simp
     with_reducible rfl
    rotate_left
    ·simp only [Act.put, List.setIfInBounds_toArray, List.set_cons_zero, List.set_cons_succ, i64_w, i32_w]
     rfl
    refine pure_ (i := 18) (N := some 83) (v := ?_) (a' := ?_) #[true, true, true, true, true, true, true, true, true, true, true, true, true, true, true, true, true, true, true, false, false, false, false] rfl rfl (any_of HT_.out (by kernel_rfl)) (fun _ _ _ h => h) (Or.inl ⟨by rfl, ?_⟩) ?_ ?_
    rotate_left
    ·intro w'
     go_simp
     with_reducible rfl
    rotate_left
    ·simp only [Act.put, List.setIfInBounds_toArray, List.set_cons_zero, List.set_cons_succ, i64_w, i32_w]
     rfl
    refine last_ (i := 19) (N := none) #[true, true, true, true, true, true, true, true, true, true, true, true, true, true, true, true, true, true, true, true, false, false, false] rfl rfl (one_of HT_.out (by kernel_rfl)) (by decide) (fun K hK => ?_)
    refine skip_ (w1 := ?_) (by rfl) rfl ?_ ?_
    rotate_left
    ·go_simp
     rfl
    refine hK.out _ _ ?_
    clear hK K
    refine pure_ (i := 20) (N := some 84) (v := ?_) (a' := ?_) #[true, true, true, true, true, true, true, true, true, true, true, true, true, true, true, true, true, true, true, true, true, false, false] rfl rfl (any_of HT_.out (by kernel_rfl)) (fun _ _ _ h => h) (Or.inl ⟨by rfl, ?_⟩) ?_ ?_
    rotate_left
    ·intro w'
     go_simp
     with_reducible rfl
    rotate_left
    ·simp only [Act.put, List.setIfInBounds_toArray, List.set_cons_zero, List.set_cons_succ, i64_w, i32_w]
     rfl
    refine pure_ (i := 21) (N := some 85) (v := ?_) (a' := ?_) #[true, true, true, true, true, true, true, true, true, true, true, true, true, true, true, true, true, true, true, true, true, true, false] rfl rfl (any_of HT_.out (by kernel_rfl)) (fun _ _ _ h => h) (Or.inl ⟨by rfl, ?_⟩) ?_ ?_
    rotate_left
    ·intro w'
     go_simp
     with_reducible rfl
    rotate_left
    ·simp only [Act.put, List.setIfInBounds_toArray, List.set_cons_zero, List.set_cons_succ, i64_w, i32_w]
     rfl
    refine last_ (i := 22) (N := none) #[true, true, true, true, true, true, true, true, true, true, true, true, true, true, true, true, true, true, true, true, true, true, true] rfl rfl (one_of HT_.out (by kernel_rfl)) (by decide) (fun K hK => ?_)
    refine skip_ (w1 := ?_) (by rfl) rfl ?_ ?_
    rotate_left
    ·go_simp
     rfl
    refine hK.out _ _ ?_
    clear hK K
    refine done_ (done_of HT_.out (by kernel_rfl)) ?_
    go_wp2
    all_goals
     go_meet
     case rel =>
      have key : ∀ (lo2 hi2 : Int) (wd : World), wd = (w6.setCell ⟨gl, K * 2, none⟩ (.int .i64 lo2)).setCell ⟨gl, K * 2 + 1, none⟩ (.int .i64 hi2) → 0 ≤ lo2 → lo2 ≤ lo → hi ≤ hi2 → hi2 ≤ 1000 → ∃ (lots2 : List S44) (sp2 : Int) (labs2 : List S62) (Ax : Option Addr) (cx : Nat) (Ay : Option Addr) (cy : Nat), Aside0 (RoundOk (lots2.map m46) samples sp2 (labs2.map m75) ∧ Kinder (lots.map m46) (lots2.map m46) samples spread sp2 (labs.map m75) (labs2.map m75)) ∧ Aside0 (In26 wd (.agg #[.slice Ax lots2.length cx, .slice A1 samples.length c1, .int .i64 sp2, .slice Ay labs2.length cy]) Ax cx lots2 A1 c1 samples sp2 Ay cy labs2) ∧ Aside0 (wd.heap[w1.heap.size]? = some (.cells #[.slice Ax lots2.length cx, .slice A1 samples.length c1, .int .i64 sp2, .slice Ay labs2.length cy] 26 (0, 0))) ∧ Aside0 (wd.heap[W.heap.size]? = some (.cells #[.slice A0 lots.length c0, .slice A1 samples.length c1, .int .i64 spread, .slice A3 labs.length c3] 26 (0, 0))) ∧ Aside0 (Below W.heap.size W wd) := by
       intro lo2 hi2 wd hwd h0 h1 h2 h3
       have hB2 : Below W.heap.size W wd := by rw [hwd]; exact below_set (below_set HB.out hlg) hlg
       have hC2 := lots_set (wd := wd) HGL.out HLR.out HRL.out h4 (fun j p hp => by obtain ⟨c, hc, hk⟩ := HRK.out j p hp; exact ⟨c, hc, k44.K_below hB2 hk⟩) K (by omega) lo2 hi2 hwd
       have hBb2 : (Kd.raw 2).C wd Ab rb.length rb := by rw [hwd]; exact (Kd.R_reads' (Kd.R_far (p := ⟨gl, K * 2 + 1, none⟩) (Kd.R_far (p := ⟨gl, K * 2, none⟩) (Kd.R_types HBb.out HGL.out (by decide)) (fun _ hk => hk.2) (.int .i64 lo2)) (fun _ hk => hk.2) (.int .i64 hi2))).2.2
       have hL2 := C_raw (d := k62) HBL.out hBb2 (fun j p hp => by obtain ⟨c, hc, hk⟩ := HBK.out j p hp; exact ⟨c, hc, k62.K_below hB2 hk⟩)
       have hx := lot_kinder HOk.out K (by omega) lo2 hi2 h0 (by rw [HLo.out]; exact h1) (by rw [HHi.out]; exact h2) h3
       have hne := blk_ne BX.out HGL.out (by decide)
       have hne3 := blk_ne B3.out HGL.out (by decide)
       have hlen : (lots.set K (⟨lo2, hi2⟩ : S44)).length = lots.length := List.length_set ..
       have BXc := BX.out
       rw [← hlen] at BXc
       exact ⟨lots.set K ⟨lo2, hi2⟩, spread, labs, some ⟨gl, 0, none⟩, cl, Ab, cb, ⟨hx⟩, ⟨kin_in2 HI.out hB2 hC2 (by rw [hlen]; have := HCL.out; omega) hL2 (Kd.R_reads' HBb.out).2.1 (by rw [hlen]; exact h4) h6 HI.out.d⟩, ⟨by rw [hwd]; exact blk_far (blk_far BXc (by dsimp only; exact hne) _) (by dsimp only; exact hne) _⟩, ⟨by rw [hwd]; exact blk_far (blk_far B3.out (by dsimp only; exact hne3) _) (by dsimp only; exact hne3) _⟩, ⟨hB2⟩⟩
      exact key _ _ _ rfl (by omega) (by omega) (by omega) (by omega)
   ·have f1 : (Int.tmod which 4 == 1) = false := beq_eq_false_iff_ne.2 hq1
    have xc := blk_cell BX.out 3
    by_cases hl : labs.length = 0
    ·have g0 : decide (0 < labs.length) = false := decide_eq_false (by omega)
     clear hl hq0 hq1
     go_wp2
     go_meet
     case rel => exact ⟨lots, spread, labs, Al, cl, Ab, cb, ⟨⟨HOk.out, kinder_refl⟩⟩, ⟨kin_in HI.out HB.out HL.out HBb.out (fun j p hp => by obtain ⟨c, hc, hk⟩ := HRK.out j p hp; exact ⟨c, hc, k44.K_below HB.out hk⟩) (fun j p hp => by obtain ⟨c, hc, hk⟩ := HBK.out j p hp; exact ⟨c, hc, k62.K_below HB.out hk⟩) h4 h6 HI.out.d⟩, BX, B3, HB⟩
    ·have g0 : decide (0 < labs.length) = true := decide_eq_true (by omega)
     obtain ⟨gb, cur, hAb, hbg, hbh, hbn, hbc, hbr⟩ := raw_open HBb.out (by have := HBL.out; omega)
     subst hAb
     have HGB := Aside0.mk hbh
     have HGR := Aside0.mk hbr
     have HCB := Aside0.mk hbc
     clear hbh hbr hbn hbc
     have hk0 := Int.tmod_nonneg (labs.length : Int) ha0
     have hk1 := Int.tmod_lt_of_pos at_ (show (0 : Int) < labs.length by omega)
     obtain ⟨k, hk⟩ : ∃ k, Int.tmod at_ (labs.length : Int) = k := ⟨_, rfl⟩
     rw [hk] at hk0 hk1
     have g1 : ((labs.length : Int) == 0) = false := beq_eq_false_iff_ne.2 (by omega)
     have g2 : ¬ (labs = []) := fun h_ => hl (by rw [h_]; rfl)
     have p0' : (0 ≤ k) = True := eq_true hk0
     have p1' : (k < (labs.length : Int)) = True := eq_true hk1
     clear hl hq0 hq1
     go_wp2
     refine start_ (n := 10) (S := fun w' => w'.cell? ⟨w1.heap.size, 3, none⟩ = some (.slice (some ⟨gb, 0, none⟩) labs.length cb)) (ds := []) #[false, false, false, false, false, false, false, false, false, false] (by kernel_rfl) rfl rfl ((blk_cell (blk_drew BX.out) 3).trans rfl) (fun hHeld => ?_)
     refine with_tabW kd.tab13 kd.bits13 (fun HT_ HW_ => ?_)
     replace BX := Aside0.mk (blk_drew BX.out)
     replace B3 := Aside0.mk (blk_drew B3.out)
     replace HB := Aside0.mk (below_drew1 HB.out)
     replace HL := Aside0.mk (Kd.R_drew HL.out)
     replace HGB := Aside0.mk (blk_drew HGB.out)
     generalize w4.drew = w5 at BX B3 HB HL HGB hHeld ⊢
     refine pure_ (i := 0) (N := some 91) (v := ?_) (a' := ?_) #[true, false, false, false, false, false, false, false, false, false] rfl rfl (any_of HT_.out (by kernel_rfl)) (fun _ _ _ h => h) (Or.inl ⟨by rfl, ?_⟩) ?_ ?_
     rotate_left
     ·intro w'
      go_simp
      with_reducible rfl
     rotate_left
     ·simp only [Act.put, List.setIfInBounds_toArray, List.set_cons_zero, List.set_cons_succ, i64_w, i32_w]
      rfl
     refine pure_ (i := 2) (N := some 93) (v := ?_) (a' := ?_) #[true, false, true, false, false, false, false, false, false, false] rfl rfl (any_of HT_.out (by kernel_rfl)) (fun _ _ _ h => h) (Or.inl ⟨by rfl, ?_⟩) ?_ ?_
     rotate_left
     ·intro w'
      go_simp
      with_reducible rfl
     rotate_left
     ·simp only [Act.put, List.setIfInBounds_toArray, List.set_cons_zero, List.set_cons_succ, i64_w, i32_w]
      rfl
     refine pure_ (i := 3) (N := some 94) (v := ?_) (a' := ?_) #[true, false, true, true, false, false, false, false, false, false] rfl rfl (any_of HT_.out (by kernel_rfl)) (fun _ _ _ h => h) (Or.inl ⟨by rfl, ?_⟩) ?_ ?_
     rotate_left
     ·intro w'
      go_simp
      with_reducible rfl
     rotate_left
     ·simp only [Act.put, List.setIfInBounds_toArray, List.set_cons_zero, List.set_cons_succ, i64_w, i32_w]
      rfl
     refine pure_ (i := 4) (N := some 95) (v := ?_) (a' := ?_) #[true, false, true, true, true, false, false, false, false, false] rfl rfl (any_of HT_.out (by kernel_rfl)) (fun _ _ _ h => h) (Or.inl ⟨by rfl, ?_⟩) ?_ ?_
     rotate_left
     ·intro w'
      go_simp
      with_reducible rfl
     rotate_left
     ·simp only [Act.put, List.setIfInBounds_toArray, List.set_cons_zero, List.set_cons_succ, i64_w, i32_w]
      rfl
     refine take_ (i := 1) (N := some 92) (v := ?_) (a' := ?_) #[true, true, true, true, true, false, false, false, false, false] rfl rfl (take_ofW HT_.out HW_.out (by kernel_rfl)) (fun _ _ _ h => h) (Or.inl ⟨by rfl, ?_⟩) hHeld ?_ ?_
     rotate_left
     ·intro w' s0
      go_simp
      with_reducible rfl
     rotate_left
     ·simp only [Act.put, List.setIfInBounds_toArray, List.set_cons_zero, List.set_cons_succ, i64_w, i32_w]
      rfl
     refine take_ (i := 5) (N := some 96) (v := ?_) (a' := ?_) #[true, true, true, true, true, true, false, false, false, false] rfl rfl (take_ofW HT_.out HW_.out (by kernel_rfl)) (fun _ _ _ h => h) (Or.inl ⟨by rfl, ?_⟩) hHeld ?_ ?_
     rotate_left
     ·intro w' s0
      go_simp
      with_reducible rfl
     rotate_left
     ·simp only [Act.put, List.setIfInBounds_toArray, List.set_cons_zero, List.set_cons_succ, i64_w, i32_w]
      rfl
     refine pure_ (i := 6) (N := some 97) (v := ?_) (a' := ?_) #[true, true, true, true, true, true, true, false, false, false] rfl rfl (any_of HT_.out (by kernel_rfl)) (fun _ _ _ h => h) (Or.inl ⟨by rfl, ?_⟩) ?_ ?_
     rotate_left
     ·intro w'
      go_simp
      with_reducible rfl
     rotate_left
     ·simp only [Act.put, List.setIfInBounds_toArray, List.set_cons_zero, List.set_cons_succ, i64_w, i32_w]
      rfl
     refine pure_ (i := 7) (N := some 98) (v := ?_) (a' := ?_) #[true, true, true, true, true, true, true, true, false, false] rfl rfl (any_of HT_.out (by kernel_rfl)) (fun _ _ _ h => h) (Or.inl ⟨by rfl, ?_⟩) ?_ ?_
     rotate_left
     ·intro w'
      go_simp
      with_reducible rfl
     rotate_left
     ·simp only [Act.put, List.setIfInBounds_toArray, List.set_cons_zero, List.set_cons_succ, i64_w, i32_w]
      rfl
     refine pure_ (i := 8) (N := some 99) (v := ?_) (a' := ?_) #[true, true, true, true, true, true, true, true, true, false] rfl rfl (any_of HT_.out (by kernel_rfl)) (fun _ _ _ h => h) (Or.inl ⟨by rfl, ?_⟩) ?_ ?_
     rotate_left
     ·intro w'
      go_simp
      with_reducible rfl
     rotate_left
     ·simp only [Act.put, List.setIfInBounds_toArray, List.set_cons_zero, List.set_cons_succ, i64_w, i32_w]
      rfl
     refine pure_ (i := 9) (N := some 14) (v := ?_) (a' := ?_) #[true, true, true, true, true, true, true, true, true, true] rfl rfl (any_of HT_.out (by kernel_rfl)) (fun _ _ _ h => h) (Or.inl ⟨by rfl, ?_⟩) ?_ ?_
     rotate_left
     ·intro w'
      go_simp
      with_reducible rfl
     rotate_left
     ·simp only [Act.put, List.setIfInBounds_toArray, List.set_cons_zero, List.set_cons_succ, i64_w, i32_w]
      rfl
     refine done_ (done_of HT_.out (by kernel_rfl)) ?_
     obtain ⟨K, rfl⟩ : ∃ K : Nat, k = (K : Int) := ⟨k.toNat, by omega⟩
     obtain ⟨r0, hr0, hrK⟩ := HBK.out K (labs.getD K z62) (by rw [List.getD_eq_getElem?_getD, List.getElem?_eq_getElem (by omega)]; rfl)
     obtain ⟨q0, q1, q2⟩ := HGR.out K r0 hr0
     obtain ⟨Ar, cr, hr0e, hrc, hrC⟩ := k62_open hrK
     have hc0 : w5.cell? ⟨gb, K * 2, none⟩ = some (.int .i64 (labs.getD K z62).f0) := (blk_cell HGB.out _).trans (q2 0 _ (by rw [hr0e]; rfl))
     have hz0 := blk_frozen HGB.out (K * 2)
     have HR0 := Aside0.mk hr0
     have HRe := Aside0.mk hr0e
     have HKr := Aside0.mk hrK
     have BXc := BX.out
     have htl : 0 ≤ (labs.getD K z62).f0 ∧ (labs.getD K z62).f0 ≤ 100 := by obtain ⟨a, b, -⟩ := HOk.out.labs _ (List.mem_map_of_mem (show labs.getD K z62 ∈ labs by rw [List.getD_eq_getElem?_getD, List.getElem?_eq_getElem (by omega)]; exact List.getElem_mem _)); exact ⟨a, b⟩
     obtain ⟨htl0, htl1⟩ := htl
     have e5 : IntKind.i64.wrap ((labs.getD K z62).f0 + n) = (labs.getD K z62).f0 + n := IntWalk.i64_in _ (by omega)
     obtain ⟨t, htt⟩ : ∃ t, (labs.getD K z62).f0 = t := ⟨_, rfl⟩
     rw [htt] at hc0 htl0 htl1 e5
     have HTt := Aside0.mk htt
     clear hr0 hr0e hrC hrK q0 q1 q2 htt
     by_cases hq2 : Int.tmod which 4 = 2
     ·have f2 : (Int.tmod which 4 == 2) = true := beq_iff_eq.2 hq2
      clear hq2
      go_wp2
      ·go_meet
       case rel =>
        have hB2 : Below W.heap.size W (w5.setCell ⟨gb, K * 2, none⟩ (.int .i64 (t + n))) := below_set HB.out hbg
        have hk2 : k62.K (w5.setCell ⟨gb, K * 2, none⟩ (.int .i64 (t + n))) ⟨t + n, (labs.getD K z62).f1⟩ (r0.set 0 (.int .i64 (t + n))) := by
         obtain ⟨A9, c9, e9, l9, C9⟩ := k62_open (k62.K_below hB2 HKr.out)
         rw [e9]
         exact k62_mk _ ⟨t + n, (labs.getD K z62).f1⟩ l9 C9
        have hC2 := labs_set (wd := w5.setCell ⟨gb, K * 2, none⟩ (.int .i64 (t + n))) HGB.out HGR.out HBL.out h6 (fun j p hp => by obtain ⟨c, hc, hk⟩ := HBK.out j p hp; exact ⟨c, hc, k62.K_below hB2 hk⟩) K 0 r0 HR0.out (by omega) (.int .i64 (t + n)) rfl ⟨t + n, (labs.getD K z62).f1⟩ hk2 rfl
        have hL2 := C_raw (d := k44) HRL.out (Kd.R_reads' (Kd.R_far (p := ⟨gb, K * 2, none⟩) (Kd.R_types HL.out HGB.out (by decide)) (fun _ hk => hk.2) (.int .i64 (t + n)))).2.2 (fun j p hp => by obtain ⟨c, hc, hk⟩ := HRK.out j p hp; exact ⟨c, hc, k44.K_below hB2 hk⟩)
        have hx := tol_kinder HOk.out K (by omega) (t + n) (by rw [HTt.out]; omega) (by omega)
        have hne := blk_ne BX.out HGB.out (by decide)
        have hne3 := blk_ne B3.out HGB.out (by decide)
        have hlen : (labs.set K (⟨t + n, (labs.getD K z62).f1⟩ : S62)).length = labs.length := List.length_set ..
        rw [← hlen] at BXc
        exact ⟨lots, spread, labs.set K ⟨t + n, (labs.getD K z62).f1⟩, Al, cl, some ⟨gb, 0, none⟩, cb, ⟨hx⟩, ⟨kin_in2 HI.out hB2 hL2 (Kd.R_reads' HL.out).2.1 hC2 (by rw [hlen]; have := HCB.out; omega) h4 (by rw [hlen]; exact h6) (fun y hy => by have := (thin_of hx.1).d y hy; omega)⟩, ⟨blk_far BXc (by dsimp only; exact hne) _⟩, ⟨blk_far B3.out (by dsimp only; exact hne3) _⟩, ⟨hB2⟩⟩
      ·go_meet
       case rel =>
        have hB2 : Below W.heap.size W (w5.setCell ⟨gb, K * 2, none⟩ (.int .i64 (100))) := below_set HB.out hbg
        have hk2 : k62.K (w5.setCell ⟨gb, K * 2, none⟩ (.int .i64 (100))) ⟨100, (labs.getD K z62).f1⟩ (r0.set 0 (.int .i64 (100))) := by
         obtain ⟨A9, c9, e9, l9, C9⟩ := k62_open (k62.K_below hB2 HKr.out)
         rw [e9]
         exact k62_mk _ ⟨100, (labs.getD K z62).f1⟩ l9 C9
        have hC2 := labs_set (wd := w5.setCell ⟨gb, K * 2, none⟩ (.int .i64 (100))) HGB.out HGR.out HBL.out h6 (fun j p hp => by obtain ⟨c, hc, hk⟩ := HBK.out j p hp; exact ⟨c, hc, k62.K_below hB2 hk⟩) K 0 r0 HR0.out (by omega) (.int .i64 (100)) rfl ⟨100, (labs.getD K z62).f1⟩ hk2 rfl
        have hL2 := C_raw (d := k44) HRL.out (Kd.R_reads' (Kd.R_far (p := ⟨gb, K * 2, none⟩) (Kd.R_types HL.out HGB.out (by decide)) (fun _ hk => hk.2) (.int .i64 (100)))).2.2 (fun j p hp => by obtain ⟨c, hc, hk⟩ := HRK.out j p hp; exact ⟨c, hc, k44.K_below hB2 hk⟩)
        have hx := tol_kinder HOk.out K (by omega) (100) (by rw [HTt.out]; omega) (by omega)
        have hne := blk_ne BX.out HGB.out (by decide)
        have hne3 := blk_ne B3.out HGB.out (by decide)
        have hlen : (labs.set K (⟨100, (labs.getD K z62).f1⟩ : S62)).length = labs.length := List.length_set ..
        rw [← hlen] at BXc
        exact ⟨lots, spread, labs.set K ⟨100, (labs.getD K z62).f1⟩, Al, cl, some ⟨gb, 0, none⟩, cb, ⟨hx⟩, ⟨kin_in2 HI.out hB2 hL2 (Kd.R_reads' HL.out).2.1 hC2 (by rw [hlen]; have := HCB.out; omega) h4 (by rw [hlen]; exact h6) (fun y hy => by have := (thin_of hx.1).d y hy; omega)⟩, ⟨blk_far BXc (by dsimp only; exact hne) _⟩, ⟨blk_far B3.out (by dsimp only; exact hne3) _⟩, ⟨hB2⟩⟩
     ·have f2 : (Int.tmod which 4 == 2) = false := beq_eq_false_iff_ne.2 hq2
      obtain ⟨rds, hrds⟩ : ∃ l, (labs.getD K z62).f1 = l := ⟨_, rfl⟩
      have HRd9 := Aside0.mk hrds
      have hc1 : w5.cell? ⟨gb, K * 2 + 1, none⟩ = some (.slice Ar rds.length cr) := (blk_cell HGB.out _).trans ((HGR.out K r0 HR0.out).2.2 1 _ (by rw [HRe.out, hrds]; rfl))
      have hz1 := blk_frozen HGB.out (K * 2 + 1)
      clear hq2 hrds
      obtain ⟨m, hm⟩ : ∃ m, rds.length = m := ⟨_, rfl⟩
      rw [hm] at hc1
      have HM := Aside0.mk hm
      clear hm
      by_cases hm0 : m = 0
      ·have g3 : decide (0 < m) = false := decide_eq_false (by omega)
       clear hm0
       go_wp2
       go_meet
       case rel =>
        have hL2 := C_raw (d := k44) HRL.out (Kd.R_reads' HL.out).2.2 (fun j p hp => by obtain ⟨c, hc, hk⟩ := HRK.out j p hp; exact ⟨c, hc, k44.K_below HB.out hk⟩)
        have hC2 := C_raw (d := k62) HBL.out (blk_rows HGB.out (by have := HBL.out; omega) HGR.out) (fun j p hp => by obtain ⟨c, hc, hk⟩ := HBK.out j p hp; exact ⟨c, hc, k62.K_below HB.out hk⟩)
        exact ⟨lots, spread, labs, Al, cl, some ⟨gb, 0, none⟩, cb, ⟨⟨HOk.out, kinder_refl⟩⟩, ⟨kin_in2 HI.out HB.out hL2 (Kd.R_reads' HL.out).2.1 hC2 (by have := HCB.out; omega) h4 h6 HI.out.d⟩, BX, B3, HB⟩
      ·have g3 : decide (0 < m) = true := decide_eq_true (by omega)
       have HLO := Aside0.mk (list_own2 (x := .slice Ar m cr) (l := rds) (W := w5) (by obtain ⟨A9, c9, e9, l9, C9⟩ := k62_open (k62.K_below HB.out HKr.out); rw [HRe.out] at e9; simp only [List.cons.injEq, Value.slice.injEq, and_true, true_and] at e9; obtain ⟨a9, b9⟩ := e9; subst a9 b9; rw [HRd9.out] at l9 C9; exact ⟨Ar, cr, by rw [HM.out], l9, C9⟩) (by have := (thin_of HOk.out).d _ (show labs.getD K z62 ∈ labs by rw [List.getD_eq_getElem?_getD, List.getElem?_eq_getElem (by omega)]; exact List.getElem_mem _); rw [HRd9.out] at this; omega) HM.out)
       have hsz5 := HB.out.size
       go_upto_region 18 with (first | (go_at_call 22; (with_reducible refine HLO.out.mono ?_); rintro e w6 ⟨Aq, cq, rfl, hy, hb⟩; have HY := Aside0.mk hy; clear hy; obtain ⟨gq, cpq, eq9, hgq, hgl, cuq, hgc⟩ := Kd.R_form HY.out (by have := HM.out; omega); rw [HM.out] at eq9; injection eq9 with e91 e92 e93; subst e91 e93; have HGQ := Aside0.mk hgq; have HGC := Aside0.mk hgc; clear e92 hgq hgl hgc; have HGB6 := Aside0.mk (blk_below (g := gb) (o := .cells cur 62 (0, 0)) HGB.out hb); have hq1 := (blk_cell HGB6.out (K * 2 + 1)).trans ((HGR.out K r0 HR0.out).2.2 1 _ (by rw [HRe.out]; rfl)); have hq2 := blk_frozen HGB6.out (K * 2 + 1); replace HB := Aside0.mk (below_step HB.out hb); replace BX := Aside0.mk (blk_below (g := w1.heap.size) (o := .cells #[.slice Al lots.length cl, .slice A1 samples.length c1, .int .i64 spread, .slice (some ⟨gb, 0, none⟩) labs.length cb] 26 (0, 0)) BX.out hb); replace B3 := Aside0.mk (blk_below (g := W.heap.size) (o := .cells #[.slice A0 lots.length c0, .slice A1 samples.length c1, .int .i64 spread, .slice A3 labs.length c3] 26 (0, 0)) B3.out hb); replace HL := Aside0.mk (Kd.R_below HL.out hb); clear hb))
       have HSz := Aside0.mk (show K * 2 + 1 < cur.size from (Array.getElem?_eq_some_iff.1 ((HGR.out K r0 HR0.out).2.2 1 _ (by rw [HRe.out]; rfl))).1)
       replace BX := Aside0.mk (blk_far (p := ⟨gb, K * 2 + 1, none⟩) BX.out (by dsimp only; exact blk_ne BX.out HGB6.out (by decide)) (.slice (some ⟨gq, 0, none⟩) m cq))
       replace B3 := Aside0.mk (blk_far (p := ⟨gb, K * 2 + 1, none⟩) B3.out (by dsimp only; exact blk_ne B3.out HGB6.out (by decide)) (.slice (some ⟨gq, 0, none⟩) m cq))
       replace HB := Aside0.mk (below_set (g := gb) (j := K * 2 + 1) (v := .slice (some ⟨gq, 0, none⟩) m cq) HB.out hbg)
       replace HL := Aside0.mk (Kd.R_far (p := ⟨gb, K * 2 + 1, none⟩) (Kd.R_types HL.out HGB6.out (by decide)) (fun _ hk => hk.2) (.slice (some ⟨gq, 0, none⟩) m cq))
       replace HY := Aside0.mk (Kd.R_mono (Kd.R_far (p := ⟨gb, K * 2 + 1, none⟩) (Kd.R_types HY.out HGB6.out (by decide)) (fun _ hk => hk.2) (.slice (some ⟨gq, 0, none⟩) m cq)) (fun _ _ => trivial))
       replace HGC := Aside0.mk (blk_far (p := ⟨gb, K * 2 + 1, none⟩) HGC.out (by dsimp only; exact blk_ne HGC.out HGB6.out (by decide)) (.slice (some ⟨gq, 0, none⟩) m cq))
       replace HGB6 := Aside0.mk (blk_set HGB6.out (K * 2 + 1) (.slice (some ⟨gq, 0, none⟩) m cq))
       clear hq1 hq2
       generalize World.setCell w6 ⟨gb, K * 2 + 1, none⟩ (.slice (some ⟨gq, 0, none⟩) m cq) = w7 at BX B3 HB HL HY HGB6 HGC ⊢
       have hj0 := Int.tmod_nonneg (m : Int) n0
       have hj1 := Int.tmod_lt_of_pos n (show (0 : Int) < m by omega)
       obtain ⟨j, hj⟩ : ∃ j, Int.tmod n (m : Int) = j := ⟨_, rfl⟩
       rw [hj] at hj0 hj1
       have g4 : ((m : Int) == 0) = false := beq_eq_false_iff_ne.2 (by omega)
       have r0' : (0 ≤ j) = True := eq_true hj0
       have r1' : (j < (m : Int)) = True := eq_true hj1
       refine start_ (n := 13) (S := fun w' => w'.cell? ⟨gb, K * 2 + 1, none⟩ = some (.slice (some ⟨gq, 0, none⟩) m cq)) (ds := [12]) #[false, false, false, false, false, false, false, false, false, false, false, false, false] (by kernel_rfl) rfl rfl ((blk_cell (blk_drew HGB6.out) _).trans (by rw [Array.getElem?_setIfInBounds_self_of_lt HSz.out])) (fun hHeld => ?_)
       refine with_tabW kd.tab18 kd.bits18 (fun HT_ HW_ => ?_)
       replace BX := Aside0.mk (blk_drew BX.out)
       replace B3 := Aside0.mk (blk_drew B3.out)
       replace HB := Aside0.mk (below_drew1 HB.out)
       replace HL := Aside0.mk (Kd.R_drew HL.out)
       replace HY := Aside0.mk (Kd.R_drew HY.out)
       replace HGC := Aside0.mk (blk_drew HGC.out)
       replace HGB6 := Aside0.mk (blk_drew HGB6.out)
       generalize w7.drew = w8 at BX B3 HB HL HY HGC HGB6 hHeld ⊢
       refine pure_ (i := 0) (N := some 127) (v := ?_) (a' := ?_) #[true, false, false, false, false, false, false, false, false, false, false, false, false] rfl rfl (any_of HT_.out (by kernel_rfl)) (fun _ _ _ h => h) (Or.inl ⟨by rfl, ?_⟩) ?_ ?_
       rotate_left
       ·intro w'
        go_simp
        with_reducible rfl
       rotate_left
       ·simp only [Act.put, List.setIfInBounds_toArray, List.set_cons_zero, List.set_cons_succ, i64_w, i32_w]
        rfl
       refine pure_ (i := 1) (N := some 128) (v := ?_) (a' := ?_) #[true, true, false, false, false, false, false, false, false, false, false, false, false] rfl rfl (any_of HT_.out (by kernel_rfl)) (fun _ _ _ h => h) (Or.inl ⟨by rfl, ?_⟩) ?_ ?_
       rotate_left
       ·intro w'
        go_simp
        with_reducible rfl
       rotate_left
       ·simp only [Act.put, List.setIfInBounds_toArray, List.set_cons_zero, List.set_cons_succ, i64_w, i32_w]
        rfl
       refine pure_ (i := 2) (N := some 129) (v := ?_) (a' := ?_) #[true, true, true, false, false, false, false, false, false, false, false, false, false] rfl rfl (any_of HT_.out (by kernel_rfl)) (fun _ _ _ h => h) (Or.inl ⟨by rfl, ?_⟩) ?_ ?_
       rotate_left
       ·intro w'
        go_simp
        with_reducible rfl
       rotate_left
       ·simp only [Act.put, List.setIfInBounds_toArray, List.set_cons_zero, List.set_cons_succ, i64_w, i32_w]
        rfl
       refine pure_ (i := 4) (N := some 131) (v := ?_) (a' := ?_) #[true, true, true, false, true, false, false, false, false, false, false, false, false] rfl rfl (any_of HT_.out (by kernel_rfl)) (fun _ _ _ h => h) (Or.inl ⟨by rfl, ?_⟩) ?_ ?_
       rotate_left
       ·intro w'
        go_simp
        with_reducible rfl
       rotate_left
       ·simp only [Act.put, List.setIfInBounds_toArray, List.set_cons_zero, List.set_cons_succ, i64_w, i32_w]
        rfl
       refine pure_ (i := 5) (N := some 132) (v := ?_) (a' := ?_) #[true, true, true, false, true, true, false, false, false, false, false, false, false] rfl rfl (any_of HT_.out (by kernel_rfl)) (fun _ _ _ h => h) (Or.inl ⟨by rfl, ?_⟩) ?_ ?_
       rotate_left
       ·intro w'
        go_simp
        with_reducible rfl
       rotate_left
       ·simp only [Act.put, List.setIfInBounds_toArray, List.set_cons_zero, List.set_cons_succ, i64_w, i32_w]
        rfl
       refine pure_ (i := 6) (N := some 133) (v := ?_) (a' := ?_) #[true, true, true, false, true, true, true, false, false, false, false, false, false] rfl rfl (any_of HT_.out (by kernel_rfl)) (fun _ _ _ h => h) (Or.inl ⟨by rfl, ?_⟩) ?_ ?_
       rotate_left
       ·intro w'
        go_simp
        with_reducible rfl
       rotate_left
       ·simp only [Act.put, List.setIfInBounds_toArray, List.set_cons_zero, List.set_cons_succ, i64_w, i32_w]
        rfl
       refine pure_ (i := 7) (N := some 134) (v := ?_) (a' := ?_) #[true, true, true, false, true, true, true, true, false, false, false, false, false] rfl rfl (any_of HT_.out (by kernel_rfl)) (fun _ _ _ h => h) (Or.inl ⟨by rfl, ?_⟩) ?_ ?_
       rotate_left
       ·intro w'
        go_simp
        with_reducible rfl
       rotate_left
       ·simp only [Act.put, List.setIfInBounds_toArray, List.set_cons_zero, List.set_cons_succ, i64_w, i32_w]
        rfl
       refine take_ (i := 3) (N := some 130) (v := ?_) (a' := ?_) #[true, true, true, true, true, true, true, true, false, false, false, false, false] rfl rfl (take_ofW HT_.out HW_.out (by kernel_rfl)) (fun _ _ _ h => h) (Or.inl ⟨by rfl, ?_⟩) hHeld ?_ ?_
       rotate_left
       ·intro w' s0
        go_simp
        with_reducible rfl
       rotate_left
       ·simp only [Act.put, List.setIfInBounds_toArray, List.set_cons_zero, List.set_cons_succ, i64_w, i32_w]
        rfl
       refine take_ (i := 8) (N := some 135) (v := ?_) (a' := ?_) #[true, true, true, true, true, true, true, true, true, false, false, false, false] rfl rfl (take_ofW HT_.out HW_.out (by kernel_rfl)) (fun _ _ _ h => h) (Or.inl ⟨by rfl, ?_⟩) hHeld ?_ ?_
       rotate_left
       ·intro w' s0
        go_simp
        with_reducible rfl
       rotate_left
       ·simp only [Act.put, List.setIfInBounds_toArray, List.set_cons_zero, List.set_cons_succ, i64_w, i32_w]
        rfl
       refine pure_ (i := 9) (N := some 136) (v := ?_) (a' := ?_) #[true, true, true, true, true, true, true, true, true, true, false, false, false] rfl rfl (any_of HT_.out (by kernel_rfl)) (fun _ _ _ h => h) (Or.inl ⟨by rfl, ?_⟩) ?_ ?_
       rotate_left
       ·intro w'
        go_simp
        with_reducible rfl
       rotate_left
       ·simp only [Act.put, List.setIfInBounds_toArray, List.set_cons_zero, List.set_cons_succ, i64_w, i32_w]
        rfl
       refine pure_ (i := 10) (N := some 137) (v := ?_) (a' := ?_) #[true, true, true, true, true, true, true, true, true, true, true, false, false] rfl rfl (any_of HT_.out (by kernel_rfl)) (fun _ _ _ h => h) (Or.inl ⟨by rfl, ?_⟩) ?_ ?_
       rotate_left
       ·intro w'
        go_simp
        with_reducible rfl
       rotate_left
       ·simp only [Act.put, List.setIfInBounds_toArray, List.set_cons_zero, List.set_cons_succ, i64_w, i32_w]
        rfl
       refine pure_ (i := 11) (N := some 138) (v := ?_) (a' := ?_) #[true, true, true, true, true, true, true, true, true, true, true, true, false] rfl rfl (any_of HT_.out (by kernel_rfl)) (fun _ _ _ h => h) (Or.inl ⟨by rfl, ?_⟩) ?_ ?_
       rotate_left
       ·intro w'
        go_simp
        with_reducible rfl
       rotate_left
       ·simp only [Act.put, List.setIfInBounds_toArray, List.set_cons_zero, List.set_cons_succ, i64_w, i32_w]
        rfl
       refine last_ (i := 12) (N := none) #[true, true, true, true, true, true, true, true, true, true, true, true, true] rfl rfl (one_of HT_.out (by kernel_rfl)) (by decide) (fun K hK => ?_)
       obtain ⟨hy0, hy1⟩ := Kd.R_celln 0 HY.out j hj0 hj1
       refine skip_ (w1 := ?_) (by rfl) rfl ?_ ?_
       rotate_left
       ·go_simp
        rfl
       refine hK.out _ _ ?_
       clear hK K
       refine done_ (done_of HT_.out (by kernel_rfl)) ?_
       go_wp2
       go_meet
       case rel =>
        have hY2 := (Kd.R_putg HY.out j (-1)).1
        have hB2 : Below W.heap.size W (w8.setCell ⟨gq, j.toNat, none⟩ (.int .i64 (-1))) := below_set HB.out (by have := HGQ.out; omega)
        obtain ⟨J, rfl⟩ : ∃ J : Nat, j = (J : Int) := ⟨j.toNat, by omega⟩
        rw [Int.toNat_natCast] at hY2 hB2 ⊢
        obtain ⟨cx9, dx9, ex9⟩ := Kd.R_reads' hY2
        have hk2 : k62.K (w8.setCell ⟨gq, J, none⟩ (.int .i64 (-1))) ⟨(labs.getD K z62).f0, (labs.getD K z62).f1.set J (-1)⟩ (r0.set 1 (.slice (some ⟨gq, 0, none⟩) m cq)) := by
         obtain ⟨A9, c9, ee, l9, C9⟩ := k62_open HKr.out
         rw [ee]
         have := k62_mk (w8.setCell ⟨gq, J, none⟩ (.int .i64 (-1))) ⟨(labs.getD K z62).f0, rds.set J (-1)⟩ (by rw [← cx9]; exact dx9) ex9
         rw [HRd9.out]
         rw [← cx9] at this
         exact this
        have hC2 := labs_set2 (wd := w8.setCell ⟨gq, J, none⟩ (.int .i64 (-1))) HGR.out HBL.out h6 (fun j p hp => by obtain ⟨c, hc, hk⟩ := HBK.out j p hp; exact ⟨c, hc, k62.K_below hB2 hk⟩) K 1 r0 HR0.out (by omega) (.slice (some ⟨gq, 0, none⟩) m cq) rfl ⟨(labs.getD K z62).f0, (labs.getD K z62).f1.set J (-1)⟩ hk2 (blk_far HGB6.out (by dsimp only; exact blk_ne HGB6.out HGC.out (by decide)) _)
        have hL2 := C_raw (d := k44) HRL.out (Kd.R_reads' (Kd.R_far (p := ⟨gq, J, none⟩) (Kd.R_types HL.out HGC.out (by decide)) (fun _ hk => hk.2) (.int .i64 (-1)))).2.2 (fun j p hp => by obtain ⟨c, hc, hk⟩ := HRK.out j p hp; exact ⟨c, hc, k44.K_below hB2 hk⟩)
        have hx := read_kinder HOk.out K J (by omega) (by rw [HRd9.out, HM.out]; omega)
        have hlen : (labs.set K (⟨(labs.getD K z62).f0, (labs.getD K z62).f1.set J (-1)⟩ : S62)).length = labs.length := List.length_set ..
        have BXc := BX.out
        rw [← hlen] at BXc
        exact ⟨lots, spread, labs.set K ⟨(labs.getD K z62).f0, (labs.getD K z62).f1.set J (-1)⟩, Al, cl, some ⟨gb, 0, none⟩, cb, ⟨hx⟩, ⟨kin_in2 HI.out hB2 hL2 (Kd.R_reads' HL.out).2.1 hC2 (by rw [hlen]; have := HCB.out; omega) h4 (by rw [hlen]; exact h6) (fun y hy => by have := (thin_of hx.1).d y hy; omega)⟩, ⟨blk_far BXc (by dsimp only; exact blk_ne BX.out HGC.out (by decide)) _⟩, ⟨blk_far B3.out (by dsimp only; exact blk_ne B3.out HGC.out (by decide)) _⟩, ⟨hB2⟩⟩
 case rest =>
  clear B3 BX HB HL HBb HRK HBK p0 p1 p2 p3 lt_BX HOk
  obtain ⟨lots2, sp2, labs2, Ax, cx, Ay, cy, hK, HX, BX, B3, HB⟩ := hcut
  obtain ⟨hok2, hk⟩ := hK.out
  obtain ⟨a, b, he1, he2, hab, ll, mm, hl1, hl2, hml⟩ := HFin.out lots2 sp2 labs2 hok2 hk
  have HE1 := Aside0.mk he1
  have HE2 := Aside0.mk he2
  have HL1 := Aside0.mk hl1
  have HL2 := Aside0.mk hl2
  have HThX := Aside0.mk (thin_of hok2)
  clear hok2 hk hK he1 he2 hl1 hl2 HFin
  have hln : off.length < 17592186044416 := by omega
  have hle : decide ((mm.length : Int) ≤ (ll.length : Int)) = true := decide_eq_true (by omega)
  obtain ⟨p0, p1, p2, p3⟩ := cells4 B3.out
  obtain ⟨x0, x1, x2, x3⟩ := cells4 BX.out
  have lt_B3 := blk_lt B3.out
  have lt_BX := blk_lt BX.out
  cases a with
  | false =>
   go_wp2_with (first | (go_at_call 36; (with_reducible refine (chosen_at (HI.out.below (by repeat (first | (with_reducible exact HB.out) | apply below_alloc | apply pw_below_drewN | apply below_drew1 | refine below_set ?_ (by omega)))) h6 bits).mono ?_); (rw [HOf.out]); rintro e w13 ⟨_, rfl, ⟨Ao, co, rfl, hco, hOff⟩, hb⟩; replace HB := Aside0.mk (below_step (by repeat (first | (with_reducible exact HB.out) | apply below_alloc | apply pw_below_drewN | apply below_drew1 | refine below_set ?_ (by omega))) hb); replace B3 := Aside0.mk (blk_below (g := W.heap.size) (o := .cells #[.slice A0 lots.length c0, .slice A1 samples.length c1, .int .i64 spread, .slice A3 labs.length c3] 26 (0, 0)) (by (with_reducible repeat (first | exact B3.out | refine blk_drewN ?_ _ | refine blk_drew ?_ | refine blk_alloc ?_ _))) hb); replace BX := Aside0.mk (blk_below (g := w1.heap.size) (o := .cells #[.slice Ax lots2.length cx, .slice A1 samples.length c1, .int .i64 sp2, .slice Ay labs2.length cy] 26 (0, 0)) (by (with_reducible repeat (first | exact BX.out | refine blk_drewN ?_ _ | refine blk_drew ?_ | refine blk_alloc ?_ _))) hb); replace HX := Aside0.mk (HX.out.below (below_step (by repeat (first | (with_reducible exact Below.refl _ _) | apply below_alloc | apply pw_below_drewN | apply below_drew1)) hb)); (try replace HOff := Aside0.mk (Kd.C_below HOff.out (below_step (by repeat (first | (with_reducible exact Below.refl _ _) | apply below_alloc | apply pw_below_drewN | apply below_drew1)) hb))); (try replace HU := Aside0.mk (HU.out.below (below_step (by repeat (first | (with_reducible exact Below.refl _ _) | apply below_alloc | apply pw_below_drewN | apply below_drew1)) hb))); (try replace HLi := Aside0.mk (HLi.out.below (below_step (by repeat (first | (with_reducible exact Below.refl _ _) | apply below_alloc | apply pw_below_drewN | apply below_drew1)) hb))); clear hb; have HOff := Aside0.mk hOff; clear hOff; (try clear p0 p1 p2 p3); (try clear lt_B3); have lt_B3 := blk_lt B3.out; obtain ⟨p0, p1, p2, p3⟩ := cells4 B3.out; (try clear x0 x1 x2 x3); (try clear lt_BX); have lt_BX := blk_lt BX.out; obtain ⟨x0, x1, x2, x3⟩ := cells4 BX.out) | (go_at_call 20; (with_reducible refine (round_at (HI.out.below (by repeat (first | (with_reducible exact HB.out) | apply below_alloc | apply pw_below_drewN | apply below_drew1 | refine below_set ?_ (by omega)))) HTh.out).mono ?_); rintro e w14 ⟨u, rfl, hu, hb⟩; replace HB := Aside0.mk (below_step (by repeat (first | (with_reducible exact HB.out) | apply below_alloc | apply pw_below_drewN | apply below_drew1 | refine below_set ?_ (by omega))) hb); replace B3 := Aside0.mk (blk_below (g := W.heap.size) (o := .cells #[.slice A0 lots.length c0, .slice A1 samples.length c1, .int .i64 spread, .slice A3 labs.length c3] 26 (0, 0)) (by (with_reducible repeat (first | exact B3.out | refine blk_drewN ?_ _ | refine blk_drew ?_ | refine blk_alloc ?_ _))) hb); replace BX := Aside0.mk (blk_below (g := w1.heap.size) (o := .cells #[.slice Ax lots2.length cx, .slice A1 samples.length c1, .int .i64 sp2, .slice Ay labs2.length cy] 26 (0, 0)) (by (with_reducible repeat (first | exact BX.out | refine blk_drewN ?_ _ | refine blk_drew ?_ | refine blk_alloc ?_ _))) hb); replace HX := Aside0.mk (HX.out.below (below_step (by repeat (first | (with_reducible exact Below.refl _ _) | apply below_alloc | apply pw_below_drewN | apply below_drew1)) hb)); (try replace HOff := Aside0.mk (Kd.C_below HOff.out (below_step (by repeat (first | (with_reducible exact Below.refl _ _) | apply below_alloc | apply pw_below_drewN | apply below_drew1)) hb))); (try replace HU := Aside0.mk (HU.out.below (below_step (by repeat (first | (with_reducible exact Below.refl _ _) | apply below_alloc | apply pw_below_drewN | apply below_drew1)) hb))); (try replace HLi := Aside0.mk (HLi.out.below (below_step (by repeat (first | (with_reducible exact Below.refl _ _) | apply below_alloc | apply pw_below_drewN | apply below_drew1)) hb))); clear hb; have HU := Aside0.mk hu; clear hu; (try clear p0 p1 p2 p3); (try clear lt_B3); have lt_B3 := blk_lt B3.out; obtain ⟨p0, p1, p2, p3⟩ := cells4 B3.out; (try clear x0 x1 x2 x3); (try clear lt_BX); have lt_BX := blk_lt BX.out; obtain ⟨x0, x1, x2, x3⟩ := cells4 BX.out) | (go_at_call 20; (with_reducible refine (round_at (HX.out.below (by repeat (first | (with_reducible exact Below.refl _ _) | apply below_alloc | apply pw_below_drewN | apply below_drew1))) HThX.out).mono ?_); rintro e w14 ⟨u, rfl, hu, hb⟩; replace HB := Aside0.mk (below_step (by repeat (first | (with_reducible exact HB.out) | apply below_alloc | apply pw_below_drewN | apply below_drew1 | refine below_set ?_ (by omega))) hb); replace B3 := Aside0.mk (blk_below (g := W.heap.size) (o := .cells #[.slice A0 lots.length c0, .slice A1 samples.length c1, .int .i64 spread, .slice A3 labs.length c3] 26 (0, 0)) (by (with_reducible repeat (first | exact B3.out | refine blk_drewN ?_ _ | refine blk_drew ?_ | refine blk_alloc ?_ _))) hb); replace BX := Aside0.mk (blk_below (g := w1.heap.size) (o := .cells #[.slice Ax lots2.length cx, .slice A1 samples.length c1, .int .i64 sp2, .slice Ay labs2.length cy] 26 (0, 0)) (by (with_reducible repeat (first | exact BX.out | refine blk_drewN ?_ _ | refine blk_drew ?_ | refine blk_alloc ?_ _))) hb); replace HX := Aside0.mk (HX.out.below (below_step (by repeat (first | (with_reducible exact Below.refl _ _) | apply below_alloc | apply pw_below_drewN | apply below_drew1)) hb)); (try replace HOff := Aside0.mk (Kd.C_below HOff.out (below_step (by repeat (first | (with_reducible exact Below.refl _ _) | apply below_alloc | apply pw_below_drewN | apply below_drew1)) hb))); (try replace HU := Aside0.mk (HU.out.below (below_step (by repeat (first | (with_reducible exact Below.refl _ _) | apply below_alloc | apply pw_below_drewN | apply below_drew1)) hb))); (try replace HLi := Aside0.mk (HLi.out.below (below_step (by repeat (first | (with_reducible exact Below.refl _ _) | apply below_alloc | apply pw_below_drewN | apply below_drew1)) hb))); clear hb; have HU := Aside0.mk hu; clear hu; (try clear p0 p1 p2 p3); (try clear lt_B3); have lt_B3 := blk_lt B3.out; obtain ⟨p0, p1, p2, p3⟩ := cells4 B3.out; (try clear x0 x1 x2 x3); (try clear lt_BX); have lt_BX := blk_lt BX.out; obtain ⟨x0, x1, x2, x3⟩ := cells4 BX.out) | (go_at_call 22; (with_reducible refine (list_at (inL_mk3 hco (Kd.C_below HOff.out (by repeat (first | (with_reducible exact Below.refl _ _) | apply below_alloc | apply pw_below_drewN | apply below_drew1)))) hln).mono ?_); rintro e w15 ⟨y, rfl, hy, hb⟩; replace HB := Aside0.mk (below_step (by repeat (first | (with_reducible exact HB.out) | apply below_alloc | apply pw_below_drewN | apply below_drew1 | refine below_set ?_ (by omega))) hb); replace B3 := Aside0.mk (blk_below (g := W.heap.size) (o := .cells #[.slice A0 lots.length c0, .slice A1 samples.length c1, .int .i64 spread, .slice A3 labs.length c3] 26 (0, 0)) (by (with_reducible repeat (first | exact B3.out | refine blk_drewN ?_ _ | refine blk_drew ?_ | refine blk_alloc ?_ _))) hb); replace BX := Aside0.mk (blk_below (g := w1.heap.size) (o := .cells #[.slice Ax lots2.length cx, .slice A1 samples.length c1, .int .i64 sp2, .slice Ay labs2.length cy] 26 (0, 0)) (by (with_reducible repeat (first | exact BX.out | refine blk_drewN ?_ _ | refine blk_drew ?_ | refine blk_alloc ?_ _))) hb); replace HX := Aside0.mk (HX.out.below (below_step (by repeat (first | (with_reducible exact Below.refl _ _) | apply below_alloc | apply pw_below_drewN | apply below_drew1)) hb)); (try replace HOff := Aside0.mk (Kd.C_below HOff.out (below_step (by repeat (first | (with_reducible exact Below.refl _ _) | apply below_alloc | apply pw_below_drewN | apply below_drew1)) hb))); (try replace HU := Aside0.mk (HU.out.below (below_step (by repeat (first | (with_reducible exact Below.refl _ _) | apply below_alloc | apply pw_below_drewN | apply below_drew1)) hb))); (try replace HLi := Aside0.mk (HLi.out.below (below_step (by repeat (first | (with_reducible exact Below.refl _ _) | apply below_alloc | apply pw_below_drewN | apply below_drew1)) hb))); clear hb; have HLi := Aside0.mk hy; clear hy; (try clear p0 p1 p2 p3); (try clear lt_B3); have lt_B3 := blk_lt B3.out; obtain ⟨p0, p1, p2, p3⟩ := cells4 B3.out; (try clear x0 x1 x2 x3); (try clear lt_BX); have lt_BX := blk_lt BX.out; obtain ⟨x0, x1, x2, x3⟩ := cells4 BX.out) | (go_at_call 21; (with_reducible refine (explains_at (HU.out.below (by repeat (first | (with_reducible exact Below.refl _ _) | apply below_alloc | apply pw_below_drewN | apply below_drew1))) (HLi.out.below (by repeat (first | (with_reducible exact Below.refl _ _) | apply below_alloc | apply pw_below_drewN | apply below_drew1))) hln).mono ?_); (first | rw [HE1.out] | rw [HE2.out]); rintro e w17 ⟨rfl, hb⟩; clear HU HLi; replace HB := Aside0.mk (below_step (by repeat (first | (with_reducible exact HB.out) | apply below_alloc | apply pw_below_drewN | apply below_drew1 | refine below_set ?_ (by omega))) hb); replace B3 := Aside0.mk (blk_below (g := W.heap.size) (o := .cells #[.slice A0 lots.length c0, .slice A1 samples.length c1, .int .i64 spread, .slice A3 labs.length c3] 26 (0, 0)) (by (with_reducible repeat (first | exact B3.out | refine blk_drewN ?_ _ | refine blk_drew ?_ | refine blk_alloc ?_ _))) hb); replace BX := Aside0.mk (blk_below (g := w1.heap.size) (o := .cells #[.slice Ax lots2.length cx, .slice A1 samples.length c1, .int .i64 sp2, .slice Ay labs2.length cy] 26 (0, 0)) (by (with_reducible repeat (first | exact BX.out | refine blk_drewN ?_ _ | refine blk_drew ?_ | refine blk_alloc ?_ _))) hb); replace HX := Aside0.mk (HX.out.below (below_step (by repeat (first | (with_reducible exact Below.refl _ _) | apply below_alloc | apply pw_below_drewN | apply below_drew1)) hb)); (try replace HOff := Aside0.mk (Kd.C_below HOff.out (below_step (by repeat (first | (with_reducible exact Below.refl _ _) | apply below_alloc | apply pw_below_drewN | apply below_drew1)) hb))); clear hb; (try clear p0 p1 p2 p3); (try clear lt_B3); have lt_B3 := blk_lt B3.out; obtain ⟨p0, p1, p2, p3⟩ := cells4 B3.out; (try clear x0 x1 x2 x3); (try clear lt_BX); have lt_BX := blk_lt BX.out; obtain ⟨x0, x1, x2, x3⟩ := cells4 BX.out) | (go_at_call 29; (with_reducible refine (least_at (HU.out.below (by repeat (first | (with_reducible exact Below.refl _ _) | apply below_alloc | apply pw_below_drewN | apply below_drew1)))).mono ?_); first | (rw [HL1.out]; rintro e w18 ⟨_, rfl, ⟨Aq, cq, rfl, hcq, hLq⟩, hb⟩; clear HU hLq; replace HB := Aside0.mk (below_step (by repeat (first | (with_reducible exact HB.out) | apply below_alloc | apply pw_below_drewN | apply below_drew1 | refine below_set ?_ (by omega))) hb); replace B3 := Aside0.mk (blk_below (g := W.heap.size) (o := .cells #[.slice A0 lots.length c0, .slice A1 samples.length c1, .int .i64 spread, .slice A3 labs.length c3] 26 (0, 0)) (by (with_reducible repeat (first | exact B3.out | refine blk_drewN ?_ _ | refine blk_drew ?_ | refine blk_alloc ?_ _))) hb); replace BX := Aside0.mk (blk_below (g := w1.heap.size) (o := .cells #[.slice Ax lots2.length cx, .slice A1 samples.length c1, .int .i64 sp2, .slice Ay labs2.length cy] 26 (0, 0)) (by (with_reducible repeat (first | exact BX.out | refine blk_drewN ?_ _ | refine blk_drew ?_ | refine blk_alloc ?_ _))) hb); replace HX := Aside0.mk (HX.out.below (below_step (by repeat (first | (with_reducible exact Below.refl _ _) | apply below_alloc | apply pw_below_drewN | apply below_drew1)) hb)); (try replace HOff := Aside0.mk (Kd.C_below HOff.out (below_step (by repeat (first | (with_reducible exact Below.refl _ _) | apply below_alloc | apply pw_below_drewN | apply below_drew1)) hb))); clear hb; (try clear p0 p1 p2 p3); (try clear lt_B3); have lt_B3 := blk_lt B3.out; obtain ⟨p0, p1, p2, p3⟩ := cells4 B3.out; (try clear x0 x1 x2 x3); (try clear lt_BX); have lt_BX := blk_lt BX.out; obtain ⟨x0, x1, x2, x3⟩ := cells4 BX.out) | (rw [HL2.out]; rintro e w19 ⟨_, rfl, ⟨At, ct, rfl, hct, hLt⟩, hb⟩; clear HU hLt; replace HB := Aside0.mk (below_step (by repeat (first | (with_reducible exact HB.out) | apply below_alloc | apply pw_below_drewN | apply below_drew1 | refine below_set ?_ (by omega))) hb); replace B3 := Aside0.mk (blk_below (g := W.heap.size) (o := .cells #[.slice A0 lots.length c0, .slice A1 samples.length c1, .int .i64 spread, .slice A3 labs.length c3] 26 (0, 0)) (by (with_reducible repeat (first | exact B3.out | refine blk_drewN ?_ _ | refine blk_drew ?_ | refine blk_alloc ?_ _))) hb); replace BX := Aside0.mk (blk_below (g := w1.heap.size) (o := .cells #[.slice Ax lots2.length cx, .slice A1 samples.length c1, .int .i64 sp2, .slice Ay labs2.length cy] 26 (0, 0)) (by (with_reducible repeat (first | exact BX.out | refine blk_drewN ?_ _ | refine blk_drew ?_ | refine blk_alloc ?_ _))) hb); replace HX := Aside0.mk (HX.out.below (below_step (by repeat (first | (with_reducible exact Below.refl _ _) | apply below_alloc | apply pw_below_drewN | apply below_drew1)) hb)); (try replace HOff := Aside0.mk (Kd.C_below HOff.out (below_step (by repeat (first | (with_reducible exact Below.refl _ _) | apply below_alloc | apply pw_below_drewN | apply below_drew1)) hb))); clear hb; (try clear p0 p1 p2 p3); (try clear lt_B3); have lt_B3 := blk_lt B3.out; obtain ⟨p0, p1, p2, p3⟩ := cells4 B3.out; (try clear x0 x1 x2 x3); (try clear lt_BX); have lt_BX := blk_lt BX.out; obtain ⟨x0, x1, x2, x3⟩ := cells4 BX.out)) | (go_at_call 18; (with_reducible refine (wakes_any _).mono ?_); rintro e w20 ⟨rfl, hb⟩; replace HB := Aside0.mk (below_step (by repeat (first | (with_reducible exact HB.out) | apply below_alloc | apply pw_below_drewN | apply below_drew1 | refine below_set ?_ (by omega))) hb); clear hb))
   go_ret
   exact ⟨rfl, HB.out⟩
  | true =>
   obtain rfl : b = true := hab rfl
   go_wp2_with (first | (go_at_call 36; (with_reducible refine (chosen_at (HI.out.below (by repeat (first | (with_reducible exact HB.out) | apply below_alloc | apply pw_below_drewN | apply below_drew1 | refine below_set ?_ (by omega)))) h6 bits).mono ?_); (rw [HOf.out]); rintro e w13 ⟨_, rfl, ⟨Ao, co, rfl, hco, hOff⟩, hb⟩; replace HB := Aside0.mk (below_step (by repeat (first | (with_reducible exact HB.out) | apply below_alloc | apply pw_below_drewN | apply below_drew1 | refine below_set ?_ (by omega))) hb); replace B3 := Aside0.mk (blk_below (g := W.heap.size) (o := .cells #[.slice A0 lots.length c0, .slice A1 samples.length c1, .int .i64 spread, .slice A3 labs.length c3] 26 (0, 0)) (by (with_reducible repeat (first | exact B3.out | refine blk_drewN ?_ _ | refine blk_drew ?_ | refine blk_alloc ?_ _))) hb); replace BX := Aside0.mk (blk_below (g := w1.heap.size) (o := .cells #[.slice Ax lots2.length cx, .slice A1 samples.length c1, .int .i64 sp2, .slice Ay labs2.length cy] 26 (0, 0)) (by (with_reducible repeat (first | exact BX.out | refine blk_drewN ?_ _ | refine blk_drew ?_ | refine blk_alloc ?_ _))) hb); replace HX := Aside0.mk (HX.out.below (below_step (by repeat (first | (with_reducible exact Below.refl _ _) | apply below_alloc | apply pw_below_drewN | apply below_drew1)) hb)); (try replace HOff := Aside0.mk (Kd.C_below HOff.out (below_step (by repeat (first | (with_reducible exact Below.refl _ _) | apply below_alloc | apply pw_below_drewN | apply below_drew1)) hb))); (try replace HU := Aside0.mk (HU.out.below (below_step (by repeat (first | (with_reducible exact Below.refl _ _) | apply below_alloc | apply pw_below_drewN | apply below_drew1)) hb))); (try replace HLi := Aside0.mk (HLi.out.below (below_step (by repeat (first | (with_reducible exact Below.refl _ _) | apply below_alloc | apply pw_below_drewN | apply below_drew1)) hb))); clear hb; have HOff := Aside0.mk hOff; clear hOff; (try clear p0 p1 p2 p3); (try clear lt_B3); have lt_B3 := blk_lt B3.out; obtain ⟨p0, p1, p2, p3⟩ := cells4 B3.out; (try clear x0 x1 x2 x3); (try clear lt_BX); have lt_BX := blk_lt BX.out; obtain ⟨x0, x1, x2, x3⟩ := cells4 BX.out) | (go_at_call 20; (with_reducible refine (round_at (HI.out.below (by repeat (first | (with_reducible exact HB.out) | apply below_alloc | apply pw_below_drewN | apply below_drew1 | refine below_set ?_ (by omega)))) HTh.out).mono ?_); rintro e w14 ⟨u, rfl, hu, hb⟩; replace HB := Aside0.mk (below_step (by repeat (first | (with_reducible exact HB.out) | apply below_alloc | apply pw_below_drewN | apply below_drew1 | refine below_set ?_ (by omega))) hb); replace B3 := Aside0.mk (blk_below (g := W.heap.size) (o := .cells #[.slice A0 lots.length c0, .slice A1 samples.length c1, .int .i64 spread, .slice A3 labs.length c3] 26 (0, 0)) (by (with_reducible repeat (first | exact B3.out | refine blk_drewN ?_ _ | refine blk_drew ?_ | refine blk_alloc ?_ _))) hb); replace BX := Aside0.mk (blk_below (g := w1.heap.size) (o := .cells #[.slice Ax lots2.length cx, .slice A1 samples.length c1, .int .i64 sp2, .slice Ay labs2.length cy] 26 (0, 0)) (by (with_reducible repeat (first | exact BX.out | refine blk_drewN ?_ _ | refine blk_drew ?_ | refine blk_alloc ?_ _))) hb); replace HX := Aside0.mk (HX.out.below (below_step (by repeat (first | (with_reducible exact Below.refl _ _) | apply below_alloc | apply pw_below_drewN | apply below_drew1)) hb)); (try replace HOff := Aside0.mk (Kd.C_below HOff.out (below_step (by repeat (first | (with_reducible exact Below.refl _ _) | apply below_alloc | apply pw_below_drewN | apply below_drew1)) hb))); (try replace HU := Aside0.mk (HU.out.below (below_step (by repeat (first | (with_reducible exact Below.refl _ _) | apply below_alloc | apply pw_below_drewN | apply below_drew1)) hb))); (try replace HLi := Aside0.mk (HLi.out.below (below_step (by repeat (first | (with_reducible exact Below.refl _ _) | apply below_alloc | apply pw_below_drewN | apply below_drew1)) hb))); clear hb; have HU := Aside0.mk hu; clear hu; (try clear p0 p1 p2 p3); (try clear lt_B3); have lt_B3 := blk_lt B3.out; obtain ⟨p0, p1, p2, p3⟩ := cells4 B3.out; (try clear x0 x1 x2 x3); (try clear lt_BX); have lt_BX := blk_lt BX.out; obtain ⟨x0, x1, x2, x3⟩ := cells4 BX.out) | (go_at_call 20; (with_reducible refine (round_at (HX.out.below (by repeat (first | (with_reducible exact Below.refl _ _) | apply below_alloc | apply pw_below_drewN | apply below_drew1))) HThX.out).mono ?_); rintro e w14 ⟨u, rfl, hu, hb⟩; replace HB := Aside0.mk (below_step (by repeat (first | (with_reducible exact HB.out) | apply below_alloc | apply pw_below_drewN | apply below_drew1 | refine below_set ?_ (by omega))) hb); replace B3 := Aside0.mk (blk_below (g := W.heap.size) (o := .cells #[.slice A0 lots.length c0, .slice A1 samples.length c1, .int .i64 spread, .slice A3 labs.length c3] 26 (0, 0)) (by (with_reducible repeat (first | exact B3.out | refine blk_drewN ?_ _ | refine blk_drew ?_ | refine blk_alloc ?_ _))) hb); replace BX := Aside0.mk (blk_below (g := w1.heap.size) (o := .cells #[.slice Ax lots2.length cx, .slice A1 samples.length c1, .int .i64 sp2, .slice Ay labs2.length cy] 26 (0, 0)) (by (with_reducible repeat (first | exact BX.out | refine blk_drewN ?_ _ | refine blk_drew ?_ | refine blk_alloc ?_ _))) hb); replace HX := Aside0.mk (HX.out.below (below_step (by repeat (first | (with_reducible exact Below.refl _ _) | apply below_alloc | apply pw_below_drewN | apply below_drew1)) hb)); (try replace HOff := Aside0.mk (Kd.C_below HOff.out (below_step (by repeat (first | (with_reducible exact Below.refl _ _) | apply below_alloc | apply pw_below_drewN | apply below_drew1)) hb))); (try replace HU := Aside0.mk (HU.out.below (below_step (by repeat (first | (with_reducible exact Below.refl _ _) | apply below_alloc | apply pw_below_drewN | apply below_drew1)) hb))); (try replace HLi := Aside0.mk (HLi.out.below (below_step (by repeat (first | (with_reducible exact Below.refl _ _) | apply below_alloc | apply pw_below_drewN | apply below_drew1)) hb))); clear hb; have HU := Aside0.mk hu; clear hu; (try clear p0 p1 p2 p3); (try clear lt_B3); have lt_B3 := blk_lt B3.out; obtain ⟨p0, p1, p2, p3⟩ := cells4 B3.out; (try clear x0 x1 x2 x3); (try clear lt_BX); have lt_BX := blk_lt BX.out; obtain ⟨x0, x1, x2, x3⟩ := cells4 BX.out) | (go_at_call 22; (with_reducible refine (list_at (inL_mk3 hco (Kd.C_below HOff.out (by repeat (first | (with_reducible exact Below.refl _ _) | apply below_alloc | apply pw_below_drewN | apply below_drew1)))) hln).mono ?_); rintro e w15 ⟨y, rfl, hy, hb⟩; replace HB := Aside0.mk (below_step (by repeat (first | (with_reducible exact HB.out) | apply below_alloc | apply pw_below_drewN | apply below_drew1 | refine below_set ?_ (by omega))) hb); replace B3 := Aside0.mk (blk_below (g := W.heap.size) (o := .cells #[.slice A0 lots.length c0, .slice A1 samples.length c1, .int .i64 spread, .slice A3 labs.length c3] 26 (0, 0)) (by (with_reducible repeat (first | exact B3.out | refine blk_drewN ?_ _ | refine blk_drew ?_ | refine blk_alloc ?_ _))) hb); replace BX := Aside0.mk (blk_below (g := w1.heap.size) (o := .cells #[.slice Ax lots2.length cx, .slice A1 samples.length c1, .int .i64 sp2, .slice Ay labs2.length cy] 26 (0, 0)) (by (with_reducible repeat (first | exact BX.out | refine blk_drewN ?_ _ | refine blk_drew ?_ | refine blk_alloc ?_ _))) hb); replace HX := Aside0.mk (HX.out.below (below_step (by repeat (first | (with_reducible exact Below.refl _ _) | apply below_alloc | apply pw_below_drewN | apply below_drew1)) hb)); (try replace HOff := Aside0.mk (Kd.C_below HOff.out (below_step (by repeat (first | (with_reducible exact Below.refl _ _) | apply below_alloc | apply pw_below_drewN | apply below_drew1)) hb))); (try replace HU := Aside0.mk (HU.out.below (below_step (by repeat (first | (with_reducible exact Below.refl _ _) | apply below_alloc | apply pw_below_drewN | apply below_drew1)) hb))); (try replace HLi := Aside0.mk (HLi.out.below (below_step (by repeat (first | (with_reducible exact Below.refl _ _) | apply below_alloc | apply pw_below_drewN | apply below_drew1)) hb))); clear hb; have HLi := Aside0.mk hy; clear hy; (try clear p0 p1 p2 p3); (try clear lt_B3); have lt_B3 := blk_lt B3.out; obtain ⟨p0, p1, p2, p3⟩ := cells4 B3.out; (try clear x0 x1 x2 x3); (try clear lt_BX); have lt_BX := blk_lt BX.out; obtain ⟨x0, x1, x2, x3⟩ := cells4 BX.out) | (go_at_call 21; (with_reducible refine (explains_at (HU.out.below (by repeat (first | (with_reducible exact Below.refl _ _) | apply below_alloc | apply pw_below_drewN | apply below_drew1))) (HLi.out.below (by repeat (first | (with_reducible exact Below.refl _ _) | apply below_alloc | apply pw_below_drewN | apply below_drew1))) hln).mono ?_); (first | rw [HE1.out] | rw [HE2.out]); rintro e w17 ⟨rfl, hb⟩; clear HU HLi; replace HB := Aside0.mk (below_step (by repeat (first | (with_reducible exact HB.out) | apply below_alloc | apply pw_below_drewN | apply below_drew1 | refine below_set ?_ (by omega))) hb); replace B3 := Aside0.mk (blk_below (g := W.heap.size) (o := .cells #[.slice A0 lots.length c0, .slice A1 samples.length c1, .int .i64 spread, .slice A3 labs.length c3] 26 (0, 0)) (by (with_reducible repeat (first | exact B3.out | refine blk_drewN ?_ _ | refine blk_drew ?_ | refine blk_alloc ?_ _))) hb); replace BX := Aside0.mk (blk_below (g := w1.heap.size) (o := .cells #[.slice Ax lots2.length cx, .slice A1 samples.length c1, .int .i64 sp2, .slice Ay labs2.length cy] 26 (0, 0)) (by (with_reducible repeat (first | exact BX.out | refine blk_drewN ?_ _ | refine blk_drew ?_ | refine blk_alloc ?_ _))) hb); replace HX := Aside0.mk (HX.out.below (below_step (by repeat (first | (with_reducible exact Below.refl _ _) | apply below_alloc | apply pw_below_drewN | apply below_drew1)) hb)); (try replace HOff := Aside0.mk (Kd.C_below HOff.out (below_step (by repeat (first | (with_reducible exact Below.refl _ _) | apply below_alloc | apply pw_below_drewN | apply below_drew1)) hb))); clear hb; (try clear p0 p1 p2 p3); (try clear lt_B3); have lt_B3 := blk_lt B3.out; obtain ⟨p0, p1, p2, p3⟩ := cells4 B3.out; (try clear x0 x1 x2 x3); (try clear lt_BX); have lt_BX := blk_lt BX.out; obtain ⟨x0, x1, x2, x3⟩ := cells4 BX.out) | (go_at_call 29; (with_reducible refine (least_at (HU.out.below (by repeat (first | (with_reducible exact Below.refl _ _) | apply below_alloc | apply pw_below_drewN | apply below_drew1)))).mono ?_); first | (rw [HL1.out]; rintro e w18 ⟨_, rfl, ⟨Aq, cq, rfl, hcq, hLq⟩, hb⟩; clear HU hLq; replace HB := Aside0.mk (below_step (by repeat (first | (with_reducible exact HB.out) | apply below_alloc | apply pw_below_drewN | apply below_drew1 | refine below_set ?_ (by omega))) hb); replace B3 := Aside0.mk (blk_below (g := W.heap.size) (o := .cells #[.slice A0 lots.length c0, .slice A1 samples.length c1, .int .i64 spread, .slice A3 labs.length c3] 26 (0, 0)) (by (with_reducible repeat (first | exact B3.out | refine blk_drewN ?_ _ | refine blk_drew ?_ | refine blk_alloc ?_ _))) hb); replace BX := Aside0.mk (blk_below (g := w1.heap.size) (o := .cells #[.slice Ax lots2.length cx, .slice A1 samples.length c1, .int .i64 sp2, .slice Ay labs2.length cy] 26 (0, 0)) (by (with_reducible repeat (first | exact BX.out | refine blk_drewN ?_ _ | refine blk_drew ?_ | refine blk_alloc ?_ _))) hb); replace HX := Aside0.mk (HX.out.below (below_step (by repeat (first | (with_reducible exact Below.refl _ _) | apply below_alloc | apply pw_below_drewN | apply below_drew1)) hb)); (try replace HOff := Aside0.mk (Kd.C_below HOff.out (below_step (by repeat (first | (with_reducible exact Below.refl _ _) | apply below_alloc | apply pw_below_drewN | apply below_drew1)) hb))); clear hb; (try clear p0 p1 p2 p3); (try clear lt_B3); have lt_B3 := blk_lt B3.out; obtain ⟨p0, p1, p2, p3⟩ := cells4 B3.out; (try clear x0 x1 x2 x3); (try clear lt_BX); have lt_BX := blk_lt BX.out; obtain ⟨x0, x1, x2, x3⟩ := cells4 BX.out) | (rw [HL2.out]; rintro e w19 ⟨_, rfl, ⟨At, ct, rfl, hct, hLt⟩, hb⟩; clear HU hLt; replace HB := Aside0.mk (below_step (by repeat (first | (with_reducible exact HB.out) | apply below_alloc | apply pw_below_drewN | apply below_drew1 | refine below_set ?_ (by omega))) hb); replace B3 := Aside0.mk (blk_below (g := W.heap.size) (o := .cells #[.slice A0 lots.length c0, .slice A1 samples.length c1, .int .i64 spread, .slice A3 labs.length c3] 26 (0, 0)) (by (with_reducible repeat (first | exact B3.out | refine blk_drewN ?_ _ | refine blk_drew ?_ | refine blk_alloc ?_ _))) hb); replace BX := Aside0.mk (blk_below (g := w1.heap.size) (o := .cells #[.slice Ax lots2.length cx, .slice A1 samples.length c1, .int .i64 sp2, .slice Ay labs2.length cy] 26 (0, 0)) (by (with_reducible repeat (first | exact BX.out | refine blk_drewN ?_ _ | refine blk_drew ?_ | refine blk_alloc ?_ _))) hb); replace HX := Aside0.mk (HX.out.below (below_step (by repeat (first | (with_reducible exact Below.refl _ _) | apply below_alloc | apply pw_below_drewN | apply below_drew1)) hb)); (try replace HOff := Aside0.mk (Kd.C_below HOff.out (below_step (by repeat (first | (with_reducible exact Below.refl _ _) | apply below_alloc | apply pw_below_drewN | apply below_drew1)) hb))); clear hb; (try clear p0 p1 p2 p3); (try clear lt_B3); have lt_B3 := blk_lt B3.out; obtain ⟨p0, p1, p2, p3⟩ := cells4 B3.out; (try clear x0 x1 x2 x3); (try clear lt_BX); have lt_BX := blk_lt BX.out; obtain ⟨x0, x1, x2, x3⟩ := cells4 BX.out)) | (go_at_call 18; (with_reducible refine (wakes_any _).mono ?_); rintro e w20 ⟨rfl, hb⟩; replace HB := Aside0.mk (below_step (by repeat (first | (with_reducible exact HB.out) | apply below_alloc | apply pw_below_drewN | apply below_drew1 | refine below_set ?_ (by omega))) hb); clear hb))
   go_ret
   exact ⟨rfl, HB.out⟩
end Go.Proofs.Ytcpbhklaffgokaa.Q
namespace Go.Proofs.Ytcpbhklaffgokaa.Q
open Go.RowKit Go.Proofs.YtcpbhklaffgokaaW.PrintWords Go.Proofs.YtcpbhklaffgokaaW.PrintLast Go.Proofs.YtcpbhklaffgokaaW.PrintMore
set_option linter.unusedVariables false
set_option linter.unusedSimpArgs false
theorem RoundKinder_walk (A0 : Option Addr) (c0 : Nat) (lots : List S44) (A1 : Option Addr) (c1 : Nat) (samples : List Int) (spread : Int) (A3 : Option Addr) (c3 : Nat) (labs : List S62) (bits which at_ by_ : Int) (W : World) {v : Value} (hi : In26 W v A0 c0 lots A1 c1 samples spread A3 c3 labs)
  (wb : (Lit.int .u8 bits).wf = true) (ww : (Lit.int .u8 which).wf = true) (wa : (Lit.int .u8 at_).wf = true) (wy : (Lit.int .u8 by_).wf = true) :
  Calls Try.prog 9 #[.agg #[.slice A0 lots.length c0, .slice A1 samples.length c1, .int .i64 spread, .slice A3 labs.length c3], .int .u8 bits, .int .u8 which, .int .u8 at_, .int .u8 by_] W fun e W' => e = .returned (.bool true) ∧ Below W.heap.size W W' := by
 obtain ⟨b, hb, ht⟩ := ready_ev lots samples spread labs hi.sz
 cases b with
 | false => exact kinder_no hi bits which at_ by_ hb
 | true =>
  obtain ⟨hth, hok⟩ := ht rfl
  obtain ⟨a0, a1⟩ := u8_wf wa
  obtain ⟨y0, y1⟩ := u8_wf wy
  have l4 := hok.l4
  have b6 := hok.b6
  rw [List.length_map] at l4 b6
  have hcl := chosenF_length labs.length bits
  refine kinder_at hi bits which at_ by_ hb (by omega) b6 y0 y1 a0 a1 hok.sp0 hok.sp1 hok (chosenF labs.length bits) rfl (by omega) (fun lots2 sp2 labs2 hok2 hk => ?_)
  have hr : risingB (labs.map m75).length (chosenF labs.length bits) = true := by rw [List.length_map]; exact chosenF_rising _ _
  have hr2 : risingB (labs2.map m75).length (chosenF labs.length bits) = true := by rw [hk.bl, List.length_map]; exact chosenF_rising _ _
  refine ⟨_, _, explainsF_ok hok hr, explainsF_ok hok2 hr2, fun h => kinder_can hok hok2 hk _ (-1) 0 h, ?_⟩
  obtain ⟨h1, h2, h3⟩ := kinder_least hok hok2 hk
  exact ⟨_, _, Prod.ext rfl h1, Prod.ext rfl h2, h3⟩
end Go.Proofs.Ytcpbhklaffgokaa.Q
