import Derived.Test.YtcpbhklaffgokaaH16
namespace Go.Proofs.Ytcpbhklaffgokaa.Q
open Go.RowKit Go.Proofs.YtcpbhklaffgokaaW.PrintWords Go.Proofs.YtcpbhklaffgokaaW.PrintLast Go.Proofs.YtcpbhklaffgokaaW.PrintMore
set_option linter.unusedVariables false
set_option linter.unusedSimpArgs false
/-- a value of a range -/
def inR (v : Int) (r : S46) : Prop := r.f0 ≤ v ∧ v ≤ r.f1
theorem inR_cut (v : Int) (a b : S46) : inR v (cutR a b) ↔ inR v a ∧ inR v b := by
  simp only [inR, cutR]
  omega
theorem inR_fold (v : Int) : ∀ (rs : List S46) (a : S46), inR v (rs.foldl cutR a) ↔ inR v a ∧ ∀ r ∈ rs, inR v r := by
  intro rs
  induction rs with
  | nil => intro a; simp
  | cons r rs ih =>
    intro a
    rw [List.foldl_cons, ih, inR_cut]
    simp only [List.mem_cons, forall_eq_or_imp]
    constructor
    · rintro ⟨⟨h1, h2⟩, h3⟩; exact ⟨h1, h2, h3⟩
    · rintro ⟨h1, h2, h3⟩; exact ⟨⟨h1, h2⟩, h3⟩
theorem inR_empty (r : S46) : emptyR r = false ↔ ∃ v, inR v r := by
  simp only [emptyR, inR, decide_eq_false_iff_not]
  constructor
  · intro h; exact ⟨r.f0, by omega, by omega⟩
  · rintro ⟨v, h1, h2⟩; omega
theorem inR_wid (v n : Int) (r : S46) (hn : 0 ≤ n) (hr : emptyR r = false) : inR v (widR r n) ↔ ∃ u, inR u r ∧ u - n ≤ v ∧ v ≤ u + n := by
  simp only [emptyR, inR, widR, decide_eq_false_iff_not] at *
  constructor
  · intro h
    by_cases h1 : v < r.f0
    · exact ⟨r.f0, by omega, by omega⟩
    · by_cases h2 : r.f1 < v
      · exact ⟨r.f1, by omega, by omega⟩
      · exact ⟨v, by omega, by omega⟩
  · rintro ⟨u, h1, h2⟩; omega
/-- the lots behind the samples from i on -/
def lotsK (labs : List S75) (spread : Int) (o : Nat → Bool) (lab d : Int) : Nat → List Int → List S46 → List S46
  | _, [], lots => lots
  | i, s :: ss, lots => lotsK labs spread o lab d (i + 1) ss (lots.set s.toNat (cutR (lots.getD s.toNat z46) (widR (sampR labs o lab d i) spread)))
def anyEmpty (labs : List S75) (o : Nat → Bool) (lab d : Int) : Nat → List Int → Bool
  | _, [] => false
  | i, _ :: ss => emptyR (sampR labs o lab d i) || anyEmpty labs o lab d (i + 1) ss
def outsK (labs : List S75) (o : Nat → Bool) (lab d : Int) : Nat → List Int → List S46
  | _, [] => []
  | i, _ :: ss => sampR labs o lab d i :: outsK labs o lab d (i + 1) ss
theorem spansFrom_eq (labs : List S75) (spread : Int) (o : Nat → Bool) (lab d : Int) : ∀ (ss : List Int) (i : Nat) (lots out : List S46), spansFrom labs spread o lab d i ss lots out = if anyEmpty labs o lab d i ss = true then none else some (lotsK labs spread o lab d i ss lots, out ++ outsK labs o lab d i ss) := by
  intro ss
  induction ss with
  | nil => intro i lots out; simp [spansFrom, anyEmpty, lotsK, outsK]
  | cons s ss ih =>
    intro i lots out
    simp only [spansFrom, anyEmpty, lotsK, outsK, ih]
    by_cases h : emptyR (sampR labs o lab d i) = true <;> simp [h]
theorem lotsK_length (labs : List S75) (spread : Int) (o : Nat → Bool) (lab d : Int) : ∀ (ss : List Int) (i : Nat) (lots : List S46), (lotsK labs spread o lab d i ss lots).length = lots.length := by
  intro ss
  induction ss with
  | nil => intro i lots; rfl
  | cons s ss ih => intro i lots; simp only [lotsK, ih, List.length_set]
theorem anyEmpty_false (labs : List S75) (o : Nat → Bool) (lab d : Int) : ∀ (ss : List Int) (i : Nat), anyEmpty labs o lab d i ss = false ↔ ∀ j, j < ss.length → emptyR (sampR labs o lab d ((i + j : Nat) : Int)) = false := by
  intro ss
  induction ss with
  | nil => intro i; simp [anyEmpty]
  | cons s ss ih =>
    intro i
    simp only [anyEmpty, Bool.or_eq_false_iff, ih, List.length_cons]
    constructor
    · rintro ⟨h1, h2⟩ j hj
      cases j with
      | zero => exact h1
      | succ j => have := h2 j (by omega); rwa [show i + 1 + j = i + (j + 1) by omega] at this
    · intro h
      exact ⟨h 0 (by omega), fun j hj => by have := h (j + 1) (by omega); rwa [show i + (j + 1) = i + 1 + j by omega] at this⟩
theorem inR_lotsK (labs : List S75) (spread : Int) (o : Nat → Bool) (lab d : Int) (v : Int) : ∀ (ss : List Int) (i : Nat) (lots : List S46) (L : Nat), L < lots.length →
    (inR v ((lotsK labs spread o lab d i ss lots).getD L z46) ↔ inR v (lots.getD L z46) ∧ ∀ j, j < ss.length → (ss.getD j 0).toNat = L → inR v (widR (sampR labs o lab d ((i + j : Nat) : Int)) spread)) := by
  intro ss
  induction ss with
  | nil => intro i lots L hL; simp [lotsK]
  | cons s ss ih =>
    intro i lots L hL
    simp only [lotsK]
    rw [ih (i + 1) _ L (by rw [List.length_set]; exact hL)]
    have hset : inR v ((lots.set s.toNat (cutR (lots.getD s.toNat z46) (widR (sampR labs o lab d i) spread))).getD L z46) ↔ inR v (lots.getD L z46) ∧ (s.toNat = L → inR v (widR (sampR labs o lab d i) spread)) := by
      by_cases e : s.toNat = L
      · subst e
        rw [List.getD_eq_getElem?_getD, List.getElem?_set_self (by omega)]
        simp only [Option.getD_some, inR_cut, forall_const]
      · rw [List.getD_eq_getElem?_getD, List.getElem?_set_ne e, ← List.getD_eq_getElem?_getD]
        simp [e]
    rw [hset]
    constructor
    · rintro ⟨⟨h1, h2⟩, h3⟩
      refine ⟨h1, fun j hj e => ?_⟩
      cases j with
      | zero => exact h2 e
      | succ j => have := h3 j (by simpa using hj) e; rwa [show i + 1 + j = i + (j + 1) by omega] at this
    · rintro ⟨h1, h2⟩
      exact ⟨⟨h1, h2 0 (by simp)⟩, fun j hj e => by have := h2 (j + 1) (by simpa using hj) e; rwa [show i + (j + 1) = i + 1 + j by omega] at this⟩
/-- a lot can have a value -/
def fitsP (labs : List S75) (samples : List Int) (spread : Int) (o : Nat → Bool) (lab d : Int) (L : Nat) (v : Int) : Prop :=
  ∀ i, i < samples.length → (samples.getD i 0).toNat = L → ∃ u, inR u (sampR labs o lab d (i : Int)) ∧ u - spread ≤ v ∧ v ≤ u + spread
theorem can_iff {lots : List S46} {samples : List Int} {spread : Int} {labs : List S75} (hok : RoundOk lots samples spread labs) (o : Nat → Bool) (lab d : Int) :
    (spansF lots samples spread labs o lab d).2 = true ↔ ∀ L, L < lots.length → ∃ v, inR v (lots.getD L z46) ∧ fitsP labs samples spread o lab d L v := by
  unfold spansF
  rw [spansFrom_eq]
  have hix : ∀ j, j < samples.length → (samples.getD j 0).toNat < lots.length := by
    intro j hj
    have := hok.smp (samples.getD j 0) (by rw [List.getD_eq_getElem?_getD, List.getElem?_eq_getElem hj]; exact List.getElem_mem _)
    omega
  cases he : anyEmpty labs o lab d 0 samples
  · rw [if_neg Bool.false_ne_true]
    simp only [Bool.not_eq_true', List.nil_append]
    rw [List.any_eq_false]
    rw [anyEmpty_false] at he
    have hw : ∀ v i, i < samples.length → (inR v (widR (sampR labs o lab d (i : Int)) spread) ↔ ∃ u, inR u (sampR labs o lab d (i : Int)) ∧ u - spread ≤ v ∧ v ≤ u + spread) := fun v i hi => inR_wid v spread _ hok.sp0 (by have := he i hi; simpa using this)
    have key : ∀ L, L < lots.length → (emptyR ((lotsK labs spread o lab d 0 samples lots).getD L z46) = false ↔ ∃ v, inR v (lots.getD L z46) ∧ fitsP labs samples spread o lab d L v) := by
      intro L hL
      rw [inR_empty]
      refine exists_congr fun v => ?_
      rw [inR_lotsK _ _ _ _ _ _ _ _ _ _ hL]
      refine and_congr_right fun _ => ?_
      unfold fitsP
      constructor
      · intro h i hi e; have := h i hi e; rw [Nat.zero_add] at this; exact (hw v i hi).1 this
      · intro h i hi e; rw [Nat.zero_add]; exact (hw v i hi).2 (h i hi e)
    constructor
    · intro h L hL
      rw [← key L hL]
      have := h ((lotsK labs spread o lab d 0 samples lots).getD L z46) (by rw [List.getD_eq_getElem?_getD, List.getElem?_eq_getElem (by rw [lotsK_length]; exact hL)]; exact List.getElem_mem _)
      simpa using this
    · intro h x hx
      obtain ⟨L, hL, rfl⟩ := List.getElem_of_mem hx
      have hL' := hL
      rw [lotsK_length] at hL'
      have := (key L hL').2 (h L hL')
      rw [List.getD_eq_getElem?_getD, List.getElem?_eq_getElem hL] at this
      simpa using this
  · rw [if_pos rfl]
    simp only [Bool.false_eq_true, false_iff]
    intro h
    have : anyEmpty labs o lab d 0 samples = false := by
      rw [anyEmpty_false]
      intro j hj
      obtain ⟨v, _, hf⟩ := h _ (hix j hj)
      obtain ⟨u, hu, _⟩ := hf j hj rfl
      rw [inR_empty, Nat.zero_add]
      exact ⟨u, hu⟩
    rw [this] at he
    cases he
end Go.Proofs.Ytcpbhklaffgokaa.Q
