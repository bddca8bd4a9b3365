import Derived.IntWalk
import Derived.Test.YtcpbhklaffgokaaC13x11
namespace Go.Proofs.Ytcpbhklaffgokaa.Q
open Go.RowKit Go.Proofs.YtcpbhklaffgokaaW.PrintWords Go.Proofs.YtcpbhklaffgokaaW.PrintLast Go.Proofs.YtcpbhklaffgokaaW.PrintMore
set_option linter.unusedVariables false
set_option linter.unusedSimpArgs false
section
variable (lots : List S44) (samples : List Int) (spread : Int) (labs : List S62) (words : List Int) (bits shift : Int)
end
theorem r4 {α : Type} {d : Kd α} {e : Nat} {w : World} {base g : Nat} {ok : Nat → Prop} {v : Value} {xs : List α} (h : d.R e w base ok v xs) (hg : g < base) (u0 u1 u2 u3 : Value) : d.R e ((((w.setCell ⟨g, 0, none⟩ u0).setCell ⟨g, 1, none⟩ u1).setCell ⟨g, 2, none⟩ u2).setCell ⟨g, 3, none⟩ u3) base ok v xs := by
 have H : ∀ {w : World} (i : Nat) (u : Value), d.R e w base (fun k => ok k ∧ base ≤ k) v xs → d.R e (w.setCell ⟨g, i, none⟩ u) base (fun k => ok k ∧ base ≤ k) v xs := fun i u h => Kd.R_far h (fun k hk => (by have := hk.2; dsimp only; omega)) u
 exact Kd.R_mono (H 3 u3 (H 2 u2 (H 1 u1 (H 0 u0 (Kd.R_mono (Kd.R_bound h) (fun k hk => ⟨hk.1, hk.2.1⟩)))))) (fun k hk => hk.1)
end Go.Proofs.Ytcpbhklaffgokaa.Q
namespace Go.Proofs.Ytcpbhklaffgokaa.Q
open Go.RowKit Go.Proofs.YtcpbhklaffgokaaW.PrintWords Go.Proofs.YtcpbhklaffgokaaW.PrintLast Go.Proofs.YtcpbhklaffgokaaW.PrintMore
set_option linter.unusedVariables false
set_option linter.unusedSimpArgs false
section
variable {lots : List S46} {samples : List Int} {spread : Int} {labs : List S75}
end
end Go.Proofs.Ytcpbhklaffgokaa.Q
namespace Go.Proofs.Ytcpbhklaffgokaa.Q
open Go.RowKit Go.Proofs.YtcpbhklaffgokaaW.PrintWords Go.Proofs.YtcpbhklaffgokaaW.PrintLast Go.Proofs.YtcpbhklaffgokaaW.PrintMore
set_option linter.unusedVariables false
set_option linter.unusedSimpArgs false
section
variable (lots : List S44) (samples : List Int) (spread : Int) (labs : List S62)
end
end Go.Proofs.Ytcpbhklaffgokaa.Q
namespace Go.Proofs.Ytcpbhklaffgokaa.Q
open Go.RowKit Go.Proofs.YtcpbhklaffgokaaW.PrintWords Go.Proofs.YtcpbhklaffgokaaW.PrintLast Go.Proofs.YtcpbhklaffgokaaW.PrintMore
attribute [local go_sem] max2_int min2_int max_two min_two max_three min_three max_four min_four
set_option linter.unusedVariables false
set_option linter.unusedSimpArgs false
end Go.Proofs.Ytcpbhklaffgokaa.Q
namespace Go.Proofs.Ytcpbhklaffgokaa.Q
open Go.RowKit Go.Proofs.YtcpbhklaffgokaaW.PrintWords Go.Proofs.YtcpbhklaffgokaaW.PrintLast Go.Proofs.YtcpbhklaffgokaaW.PrintMore
set_option linter.unusedVariables false
set_option linter.unusedSimpArgs false
theorem upto_append (a m j : Nat) : upto a (m + j) = upto a m ++ upto (a + m) j := by
 unfold upto
 rw [← List.range'_append_1, List.map_append]
theorem mem_upto (a m : Nat) (x : Int) : x ∈ upto a m ↔ (a : Int) ≤ x ∧ x < (a + m : Nat) := by
 unfold upto
 rw [List.mem_map]
 constructor
 ·rintro ⟨k, hk, rfl⟩
  rw [List.mem_range'_1] at hk
  omega
 ·rintro ⟨h1, h2⟩
  exact ⟨x.toNat, by rw [List.mem_range'_1]; omega, by omega⟩
theorem fromF_rising {can : List Int → Bool} {n : Nat} : ∀ {m : Nat} {l : List Int} {next : Nat} {y : List Int}, y ∈ fromF can n m l next → next ≤ n → ∃ t, y = l ++ t ∧ (upto next (n - next)).filter (fun x => t.contains x) = t := by
 intro m
 induction m with
 | zero =>
  intro l next y hy _
  simp only [fromF] at hy
  split at hy
  ·rw [List.mem_singleton.1 hy]
   refine ⟨[], by simp, ?_⟩
   rw [List.filter_eq_nil_iff]
   intro a _
   simp
  ·cases hy
 | succ m ih =>
  intro l next y hy hn
  simp only [fromF, List.mem_flatMap] at hy
  obtain ⟨k, hk1, hk⟩ := hy
  rw [List.mem_range'_1] at hk1
  obtain ⟨t, rfl, ht⟩ := ih hk (by omega)
  refine ⟨(k : Int) :: t, by simp, ?_⟩
  have htm : ∀ x ∈ t, (k : Int) + 1 ≤ x := by
   intro x hx
   rw [← ht, List.mem_filter, mem_upto] at hx
   omega
  rw [show n - next = (k - next) + ((n - (k + 1)) + 1) by omega, upto_append, show next + (k - next) = k by omega, upto_succ, List.filter_append, List.filter_cons_of_pos (by simp)]
  have e1 : (upto next (k - next)).filter (fun x => ((k : Int) :: t).contains x) = [] := by
   rw [List.filter_eq_nil_iff]
   intro x hx
   rw [mem_upto] at hx
   simp only [List.contains_iff_mem, List.mem_cons, not_or]
   exact ⟨by omega, fun h => by have := htm x h; omega⟩
  have e2 : (upto (k + 1) (n - (k + 1))).filter (fun x => ((k : Int) :: t).contains x) = (upto (k + 1) (n - (k + 1))).filter (fun x => t.contains x) := by
   refine List.filter_congr (fun x hx => ?_)
   rw [mem_upto] at hx
   refine bool_ext ?_
   simp only [List.contains_iff_mem, List.mem_cons]
   constructor
   ·rintro (h | h)
    ·omega
    ·exact h
   ·exact .inr
  rw [e1, e2, ht]
  rfl
theorem fewK_rising {can : List Int → Bool} {n : Nat} : ∀ (k : Nat) (y : List Int), y ∈ fewK can n k → (upto 0 n).filter (fun x => y.contains x) = y := by
 intro k
 induction k with
 | zero => intro y hy; cases hy
 | succ k ih =>
  intro y hy
  simp only [fewK] at hy
  split at hy
  ·obtain ⟨t, rfl, ht⟩ := fromF_rising hy (Nat.zero_le _)
   simpa using ht
  ·exact ih y hy
end Go.Proofs.Ytcpbhklaffgokaa.Q
namespace Go.Proofs.Ytcpbhklaffgokaa.Q
open Go.RowKit Go.Proofs.YtcpbhklaffgokaaW.PrintWords Go.Proofs.YtcpbhklaffgokaaW.PrintLast Go.Proofs.YtcpbhklaffgokaaW.PrintMore
set_option linter.unusedVariables false
set_option linter.unusedSimpArgs false
section
variable {lots : List S44} {samples : List Int} {spread : Int} {labs : List S62} {words : List Int} {bits shift : Int}
end
theorem fromF_all {can : List Int → Bool} {n : Nat} : ∀ (t l : List Int) (next : Nat), t.Pairwise (· < ·) → (∀ x ∈ t, (next : Int) ≤ x ∧ x < n) → can (l ++ t) = true → l ++ t ∈ fromF can n t.length l next := by
 intro t
 induction t with
 | nil =>
  intro l next _ _ hc
  rw [List.append_nil] at hc ⊢
  simp [fromF, hc]
 | cons x t ih =>
  intro l next hp hb hc
  obtain ⟨b0, b1⟩ := hb x List.mem_cons_self
  obtain ⟨hx, ht⟩ := List.pairwise_cons.1 hp
  rw [List.length_cons]
  simp only [fromF, List.mem_flatMap]
  refine ⟨x.toNat, by rw [List.mem_range'_1]; omega, ?_⟩
  have e : ((x.toNat : Nat) : Int) = x := by omega
  rw [e]
  have := ih (l ++ [x]) (x.toNat + 1) ht (fun y hy => by have := hx y hy; have := hb y (List.mem_cons_of_mem _ hy); omega) (by rwa [List.append_assoc, List.singleton_append])
  rwa [List.append_assoc, List.singleton_append] at this
theorem few_le {can : List Int → Bool} {n : Nat} (y : List Int) (hp : y.Pairwise (· < ·)) (hb : ∀ x ∈ y, (0 : Int) ≤ x ∧ x < n) (hn : y.length ≤ n) (hc : can y = true) :
  (∀ x ∈ fewK can n (n + 1), x.length ≤ y.length) ∧ ((∀ x ∈ fewK can n (n + 1), x.length = y.length) → y ∈ fewK can n (n + 1)) := by
 have hm : y ∈ fromF can n y.length [] 0 := by
  have := fromF_all (can := can) (n := n) y [] 0 hp (fun x hx => by have := hb x hx; omega) (by simpa using hc)
  simpa using this
 by_cases h0 : (fewK can n y.length).length = 0
 ·have e : fewK can n (y.length + 1) = fromF can n y.length [] 0 := by simp only [fewK]; rw [if_pos h0]
  have hne : (fewK can n (y.length + 1)).length ≠ 0 := by
   rw [e]
   intro h
   rw [List.eq_nil_of_length_eq_zero h] at hm
   cases hm
  rw [fewK_stays can n (y.length + 1) hne (n + 1) (by omega), e]
  exact ⟨fun x hx => by have := fromF_mem hx; simp at this; omega, fun _ => hm⟩
 ·rw [fewK_stays can n y.length h0 (n + 1) (by omega)]
  refine ⟨fun x hx => Nat.le_of_lt (fewK_mem hx), fun h => ?_⟩
  cases hx : fewK can n y.length with
  | nil => rw [hx] at h0; exact absurd rfl h0
  | cons x xs =>
   have hm' : x ∈ fewK can n y.length := by rw [hx]; exact List.mem_cons_self
   have h1 := h x hm'
   have h2 := fewK_mem hm'
   omega
end Go.Proofs.Ytcpbhklaffgokaa.Q
namespace Go.Proofs.Ytcpbhklaffgokaa.Q
open Go.RowKit Go.Proofs.YtcpbhklaffgokaaW.PrintWords Go.Proofs.YtcpbhklaffgokaaW.PrintLast Go.Proofs.YtcpbhklaffgokaaW.PrintMore
set_option linter.unusedVariables false
set_option linter.unusedSimpArgs false
section
variable {lots lots' : List S46} {samples : List Int} {spread spread' : Int} {labs labs' : List S75}
theorem fromF_can {can : List Int → Bool} {n : Nat} : ∀ {m : Nat} {l : List Int} {next : Nat} {y : List Int}, y ∈ fromF can n m l next → can y = true := by
 intro m
 induction m with
 | zero =>
  intro l next y hy
  simp only [fromF] at hy
  split at hy
  ·rw [List.mem_singleton.1 hy]; assumption
  ·cases hy
 | succ m ih =>
  intro l next y hy
  simp only [fromF, List.mem_flatMap] at hy
  obtain ⟨k, _, hk⟩ := hy
  exact ih hk
theorem fewK_can {can : List Int → Bool} {n : Nat} : ∀ {k : Nat} {y : List Int}, y ∈ fewK can n k → can y = true := by
 intro k
 induction k with
 | zero => intro y hy; cases hy
 | succ k ih =>
  intro y hy
  simp only [fewK] at hy
  split at hy
  ·exact fromF_can hy
  ·exact ih hy
end
end Go.Proofs.Ytcpbhklaffgokaa.Q
namespace Go.Proofs.Ytcpbhklaffgokaa.Q
open Go.RowKit Go.Proofs.YtcpbhklaffgokaaW.PrintWords Go.Proofs.YtcpbhklaffgokaaW.PrintLast Go.Proofs.YtcpbhklaffgokaaW.PrintMore
set_option linter.unusedVariables false
set_option linter.unusedSimpArgs false
def rotL {α : Type} (t : Nat) (xs : List α) : List α := xs.drop t ++ xs.take t
theorem rotL_length {α : Type} (t : Nat) (xs : List α) (h : t ≤ xs.length) : (rotL t xs).length = xs.length := by
 unfold rotL
 rw [List.length_append, List.length_drop, List.length_take]
 omega
theorem pq (n t j : Nat) (ht : t < n) (hj : j < n) : (j + t) % n < n ∧ ((j + t) % n + n - t) % n = j ∧ (j + n - t) % n < n ∧ ((j + n - t) % n + t) % n = j := by
 have hp : (j + t) % n = if j + t < n then j + t else j + t - n := by
  by_cases h : j + t < n
  ·rw [if_pos h, Nat.mod_eq_of_lt h]
  ·rw [if_neg h, Nat.mod_eq_sub_mod (by omega), Nat.mod_eq_of_lt (by omega)]
 have hq : ∀ k, k < n → (k + n - t) % n = if t ≤ k then k - t else k + n - t := by
  intro k hk
  by_cases h : t ≤ k
  ·rw [if_pos h, Nat.mod_eq_sub_mod (by omega), Nat.mod_eq_of_lt (by omega)]
   omega
  ·rw [if_neg h, Nat.mod_eq_of_lt (by omega)]
 have hp2 : ∀ k, k < n → (k + t) % n = if k + t < n then k + t else k + t - n := by
  intro k hk
  by_cases h : k + t < n
  ·rw [if_pos h, Nat.mod_eq_of_lt h]
  ·rw [if_neg h, Nat.mod_eq_sub_mod (by omega), Nat.mod_eq_of_lt (by omega)]
 have a : (j + t) % n < n := Nat.mod_lt _ (by omega)
 have b : (j + n - t) % n < n := Nat.mod_lt _ (by omega)
 refine ⟨a, ?_, b, ?_⟩
 ·rw [hq _ a, hp]
  split <;> split <;> omega
 ·rw [hp2 _ b, hq j hj]
  split <;> split <;> omega
theorem rotL_getD {α : Type} (t : Nat) (xs : List α) (z : α) (j : Nat) (ht : t < xs.length) (hj : j < xs.length) : (rotL t xs).getD j z = xs.getD ((j + t) % xs.length) z := by
 unfold rotL
 rw [List.getD_eq_getElem?_getD, List.getD_eq_getElem?_getD, List.getElem?_append, List.length_drop]
 by_cases h : j < xs.length - t
 ·rw [if_pos h, List.getElem?_drop, Nat.mod_eq_of_lt (show j + t < xs.length by omega), Nat.add_comm t j]
 ·rw [if_neg h, List.getElem?_take, if_pos (by omega), Nat.mod_eq_sub_mod (by omega), Nat.mod_eq_of_lt (by omega)]
  congr 2
  omega
theorem rotL_map {α β : Type} (f : α → β) (t : Nat) (xs : List α) : (rotL t xs).map f = rotL t (xs.map f) := by
 unfold rotL
 rw [List.map_append, List.map_drop, List.map_take]
theorem rotL_mem {α : Type} {t : Nat} {xs : List α} {x : α} (h : x ∈ rotL t xs) : x ∈ xs := by
 rcases List.mem_append.1 h with h | h
 ·exact List.mem_of_mem_drop h
 ·exact List.mem_of_mem_take h
section
variable {lots : List S46} {samples : List Int} {spread : Int} {labs : List S75} {t : Nat}
theorem rot_ok (hok : RoundOk lots samples spread labs) (ht : t < labs.length) : RoundOk lots samples spread (rotL t labs) := by
 obtain ⟨l0, l4, s8, b6, hlot, hsmp, sp0, sp1, hlab⟩ := hok
 exact ⟨l0, l4, s8, by rw [rotL_length _ _ (by omega)]; exact b6, hlot, hsmp, sp0, sp1, fun x hx => hlab x (rotL_mem hx)⟩
theorem rot_samp (ht : t < labs.length) (o oX : Nat → Bool) (lab labX d : Int) (ho : ∀ j, j < labs.length → oX j = o ((j + t) % labs.length)) (hl : ∀ j : Nat, j < labs.length → ((j : Int) = labX ↔ (((j + t) % labs.length : Nat) : Int) = lab)) (i v : Int) :
  inR v (sampR (rotL t labs) oX labX d i) ↔ inR v (sampR labs o lab d i) := by
 rw [sampR_iff, sampR_iff, rotL_length _ _ (by omega)]
 have hr : ∀ j, j < labs.length → rangeOf labX d i j ((rotL t labs).getD j z75) = rangeOf lab d i ((j + t) % labs.length) (labs.getD ((j + t) % labs.length) z75) := by
  intro j hj
  rw [rotL_getD t labs z75 j ht hj]
  unfold rangeOf
  by_cases e : (j : Int) = labX
  ·simp only [if_pos e, if_pos ((hl j hj).1 e)]
  ·simp only [if_neg e, if_neg (fun h => e ((hl j hj).2 h))]
 constructor
 ·rintro ⟨hf, h⟩
  refine ⟨hf, fun k hk hok hn => ?_⟩
  obtain ⟨_, _, b, c⟩ := pq labs.length t k ht hk
  have h2 := h ((k + labs.length - t) % labs.length) b (by rw [ho _ b, c]; exact hok) (by rw [rotL_getD t labs z75 _ ht b, c]; exact hn)
  rw [hr _ b, c] at h2
  exact h2
 ·rintro ⟨hf, h⟩
  refine ⟨hf, fun j hj hoj hn => ?_⟩
  obtain ⟨a, _, _, _⟩ := pq labs.length t j ht hj
  rw [rotL_getD t labs z75 _ ht hj] at hn
  rw [hr j hj]
  exact h _ a (by rw [← ho j hj]; exact hoj) hn
theorem rot_can (hok : RoundOk lots samples spread labs) (ht : t < labs.length) (o oX : Nat → Bool) (lab labX d : Int) (ho : ∀ j, j < labs.length → oX j = o ((j + t) % labs.length)) (hl : ∀ j : Nat, j < labs.length → ((j : Int) = labX ↔ (((j + t) % labs.length : Nat) : Int) = lab)) :
  (spansF lots samples spread (rotL t labs) oX labX d).2 = (spansF lots samples spread labs o lab d).2 := by
 rw [Bool.eq_iff_iff, can_iff hok, can_iff (rot_ok hok ht)]
 have hs := fun i v => rot_samp (labs := labs) ht o oX lab labX d ho hl i v
 constructor
 ·intro h L hL
  obtain ⟨v, hv, hf⟩ := h L hL
  refine ⟨v, hv, fun i hi e => ?_⟩
  obtain ⟨u, hu, p, q⟩ := hf i hi e
  exact ⟨u, (hs _ _).1 hu, p, q⟩
 ·intro h L hL
  obtain ⟨v, hv, hf⟩ := h L hL
  refine ⟨v, hv, fun i hi e => ?_⟩
  obtain ⟨u, hu, p, q⟩ := hf i hi e
  exact ⟨u, (hs _ _).2 hu, p, q⟩
theorem rot_canF (hok : RoundOk lots samples spread labs) (ht : t < labs.length) (o oX : Nat → Bool) (ho : ∀ j, j < labs.length → oX j = o ((j + t) % labs.length)) : canF lots samples spread (rotL t labs) oX = canF lots samples spread labs o :=
 rot_can hok ht o oX (-1) (-1) 0 ho (fun j _ => ⟨fun h => by omega, fun h => by omega⟩)
theorem rot_shifts (hok : RoundOk lots samples spread labs) (ht : t < labs.length) : shiftsF lots samples spread (rotL t labs) 0 = shiftsF lots samples spread labs (t : Int) := by
 have h0 := check_of_ok hok
 have h1 := check_of_ok (rot_ok hok ht)
 have hw : withinB (t : Int) 0 ((labs.length : Int) - 1) = true := by unfold withinB; rw [decide_eq_true (by omega), decide_eq_true (by omega)]; rfl
 have hwX : withinB 0 0 (((rotL t labs).length : Int) - 1) = true := by rw [rotL_length _ _ (by omega)]; unfold withinB; rw [decide_eq_true (by omega), decide_eq_true (by omega)]; rfl
 have hz : ∀ j, j < labs.length → (j = 0 ↔ (j + t) % labs.length = t) := by
  intro j hj
  obtain ⟨_, a, _, _⟩ := pq labs.length t j ht hj
  constructor
  ·rintro rfl
   rw [Nat.zero_add, Nat.mod_eq_of_lt ht]
  ·intro h
   rw [h, Nat.add_sub_cancel_left, Nat.mod_self] at a
   exact a.symm
 have hc : canF lots samples spread (rotL t labs) (oneOff 0) = canF lots samples spread labs (oneOff (t : Int)) := by
  refine rot_canF hok ht _ _ (fun j hj => ?_)
  unfold oneOff
  rw [Bool.false_or, Bool.false_or, Bool.eq_iff_iff, decide_eq_true_eq, decide_eq_true_eq, Int.toNat_natCast]
  exact hz j hj
 have hs : canS lots samples spread (rotL t labs) 0 = canS lots samples spread labs (t : Int) := by
  funext d
  refine rot_can hok ht _ _ (t : Int) 0 d (fun _ _ => rfl) (fun j hj => ?_)
  have := hz j hj
  omega
 unfold shiftsF
 rw [h0, h1, hw, hwX, hc, hs]
theorem pairwise_nodup {l : List Int} (h : l.Pairwise (· < ·)) : l.Nodup := h.imp (fun h e => by omega)
theorem few_mem {lots : List S46} {samples : List Int} {spread : Int} {labs : List S75} {y : List Int} (hy : y ∈ fewestF lots samples spread labs) : y.Pairwise (· < ·) ∧ (∀ x ∈ y, (0 : Int) ≤ x ∧ x < labs.length) ∧ canF lots samples spread labs (offOf y) = true ∧ y.length ≤ labs.length := by
 have hr := fewK_rising _ y hy
 have hlen := fewK_mem hy
 refine ⟨by rw [← hr]; exact List.Pairwise.filter _ (upto_pairwise _), fun x hx => ?_, fewK_can hy, by omega⟩
 rw [← hr] at hx
 have := (mem_upto _ _ _).1 (List.mem_filter.1 hx).1
 omega
end
def turn (n : Nat) (p : Nat → Nat) (y : List Int) : List Int := (upto 0 n).filter (fun x => y.contains ((p x.toNat : Nat) : Int))
theorem turn_mem (n : Nat) (p : Nat → Nat) (y : List Int) (x : Int) : x ∈ turn n p y ↔ 0 ≤ x ∧ x < n ∧ ((p x.toNat : Nat) : Int) ∈ y := by
 unfold turn
 rw [List.mem_filter, mem_upto, List.contains_iff_mem]
 constructor
 ·rintro ⟨h, h2⟩
  exact ⟨by omega, by omega, h2⟩
 ·rintro ⟨h, h1, h2⟩
  exact ⟨by omega, h2⟩
theorem turn_pairwise (n : Nat) (p : Nat → Nat) (y : List Int) : (turn n p y).Pairwise (· < ·) := List.Pairwise.filter _ (upto_pairwise _)
theorem turn_off (n : Nat) (p : Nat → Nat) (y : List Int) (j : Nat) (hj : j < n) : offOf (turn n p y) j = offOf y (p j) := by
 unfold offOf
 rw [Bool.eq_iff_iff, List.contains_iff_mem, List.contains_iff_mem, turn_mem, Int.toNat_natCast]
 exact ⟨fun h => h.2.2, fun h => ⟨by omega, by omega, h⟩⟩
theorem turn_length {n : Nat} {p q : Nat → Nat} (hpq : ∀ j, j < n → p j < n ∧ q (p j) = j ∧ q j < n ∧ p (q j) = j) {y : List Int} (hn : y.Nodup) (hb : ∀ x ∈ y, (0 : Int) ≤ x ∧ x < n) : (turn n p y).length = y.length := by
 have h1 : (y.map fun x => ((q x.toNat : Nat) : Int)).Nodup := by
  refine List.pairwise_map.2 (hn.imp_of_mem ?_)
  intro a b ha hb' hne he
  have h1 := hb a ha
  have h2 := hb b hb'
  have h3 := (hpq a.toNat (by omega)).2.2.2
  have h4 := (hpq b.toNat (by omega)).2.2.2
  have he : ((q a.toNat : Nat) : Int) = ((q b.toNat : Nat) : Int) := he
  have h5 : q a.toNat = q b.toNat := by omega
  rw [h5, h4] at h3
  omega
 have hp := (List.perm_ext_iff_of_nodup (pairwise_nodup (turn_pairwise n p y)) h1).2 (fun a => by
  rw [turn_mem, List.mem_map]
  constructor
  ·rintro ⟨h1, h2, h3⟩
   refine ⟨_, h3, ?_⟩
   rw [Int.toNat_natCast, (hpq a.toNat (by omega)).2.1]
   omega
  ·rintro ⟨x, hx, rfl⟩
   have h1 := hb x hx
   have h2 := hpq x.toNat (by omega)
   refine ⟨by omega, by omega, ?_⟩
   rw [Int.toNat_natCast, h2.2.2.2]
   rwa [show ((x.toNat : Nat) : Int) = x by omega])
 rw [hp.length_eq, List.length_map]
theorem few_turn {lots : List S46} {samples : List Int} {spread : Int} {labs labsX : List S75} {n : Nat} {p q : Nat → Nat} (hl : labs.length = n) (hlX : labsX.length = n) (hpq : ∀ j, j < n → p j < n ∧ q (p j) = j ∧ q j < n ∧ p (q j) = j)
  (hc : ∀ o oX : Nat → Bool, (∀ j, j < n → oX j = o (p j)) → canF lots samples spread labsX oX = canF lots samples spread labs o) (hcX : ∀ o oX : Nat → Bool, (∀ k, k < n → o k = oX (q k)) → canF lots samples spread labs o = canF lots samples spread labsX oX)
  {y : List Int} (hy : y ∈ fewestF lots samples spread labs) : turn n p y ∈ fewestF lots samples spread labsX := by
 obtain ⟨hp, hb, hcan, hlen⟩ := few_mem hy
 have hlt := turn_length hpq (pairwise_nodup hp) (by rw [← hl]; exact hb)
 have hbt : ∀ x ∈ turn n p y, (0 : Int) ≤ x ∧ x < labsX.length := fun x hx => by have := (turn_mem _ _ _ _).1 hx; omega
 have hct : canF lots samples spread labsX (offOf (turn n p y)) = true := by rw [hc (offOf y) _ (fun j hj => turn_off n p y j hj)]; exact hcan
 obtain ⟨h1, h2⟩ := few_le (can := fun l => canF lots samples spread labsX (offOf l)) (turn n p y) (turn_pairwise _ _ _) hbt (by omega) hct
 refine h2 (fun x hx => ?_)
 have hle := h1 x hx
 obtain ⟨hp', hb', hcan', hlen'⟩ := few_mem (show x ∈ fewestF lots samples spread labsX from hx)
 have hqp : ∀ j, j < n → q j < n ∧ p (q j) = j ∧ p j < n ∧ q (p j) = j := fun j hj => by obtain ⟨a, b, c, d⟩ := hpq j hj; exact ⟨c, d, a, b⟩
 have hlt' := turn_length hqp (pairwise_nodup hp') (by rw [← hlX]; exact hb')
 have hbt' : ∀ z ∈ turn n q x, (0 : Int) ≤ z ∧ z < labs.length := fun z hz => by have := (turn_mem _ _ _ _).1 hz; omega
 have hct' : canF lots samples spread labs (offOf (turn n q x)) = true := by rw [hcX _ (offOf x) (fun j hj => turn_off n q x j hj)]; exact hcan'
 obtain ⟨h3, -⟩ := few_le (can := fun l => canF lots samples spread labs (offOf l)) (turn n q x) (turn_pairwise _ _ _) hbt' (by omega) hct'
 have := h3 y hy
 omega
theorem convL_mem {ls : List (List Int)} (h : 0 < ls.length) (x : Int) : x ∈ convL ls ↔ ∀ y ∈ ls, x ∈ y := by
 unfold convL
 rw [List.mem_filter]
 unfold convP
 rw [List.all_eq_true]
 have hm : ls.getD 0 [] ∈ ls := by
  rw [List.getD_eq_getElem?_getD, List.getElem?_eq_getElem h]
  exact List.getElem_mem _
 constructor
 ·rintro ⟨_, h2⟩ y hy
  exact List.contains_iff_mem.1 (h2 y hy)
 ·intro h2
  exact ⟨h2 _ hm, fun y hy => List.contains_iff_mem.2 (h2 y hy)⟩
section
variable {lots : List S46} {samples : List Int} {spread : Int} {labs : List S75} {t : Nat}
theorem conv_turn (hok : RoundOk lots samples spread labs) (ht : t < labs.length) :
  convL (fewestF lots samples spread (rotL t labs)) = turn labs.length (fun j => (j + t) % labs.length) (convL (fewestF lots samples spread labs)) := by
 have h0 := fewest_some (check_of_ok hok)
 have h1 := fewest_some (check_of_ok (rot_ok hok ht))
 have hpq := fun j hj => pq labs.length t j ht hj
 have hqp : ∀ j, j < labs.length → (j + labs.length - t) % labs.length < labs.length ∧ ((j + labs.length - t) % labs.length + t) % labs.length = j ∧ (j + t) % labs.length < labs.length ∧ ((j + t) % labs.length + labs.length - t) % labs.length = j := fun j hj => by obtain ⟨a, b, c, d⟩ := hpq j hj; exact ⟨c, d, a, b⟩
 have hc := fun (o oX : Nat → Bool) (ho : ∀ j, j < labs.length → oX j = o ((j + t) % labs.length)) => rot_canF hok ht o oX ho
 have hcX : ∀ o oX : Nat → Bool, (∀ k, k < labs.length → o k = oX ((k + labs.length - t) % labs.length)) → canF lots samples spread labs o = canF lots samples spread (rotL t labs) oX := fun o oX ho => by
  refine (hc o oX (fun j hj => ?_)).symm
  obtain ⟨a, b, _, _⟩ := hpq j hj
  rw [ho _ a, b]
 have hlX := rotL_length t labs (by omega)
 have hup : ∀ {l : List Int}, l.Pairwise (· < ·) → (∀ x ∈ l, (0 : Int) ≤ x ∧ x < labs.length) → (upto 0 labs.length).filter (fun x => l.contains x) = l := fun {l} hp hb => by
  have hperm := (List.perm_ext_iff_of_nodup (pairwise_nodup (List.Pairwise.filter (fun x => l.contains x) (upto_pairwise labs.length))) (pairwise_nodup hp)).2 (fun a => by
   rw [List.mem_filter, mem_upto, List.contains_iff_mem]
   exact ⟨fun h => h.2, fun h => ⟨by have := hb a h; omega, h⟩⟩)
  exact hperm.eq_of_pairwise (fun a b _ _ h1 h2 => by omega) (List.Pairwise.filter _ (upto_pairwise _)) hp
 have hconv : ∀ {ls : List S75}, ls.length = labs.length → 0 < (fewestF lots samples spread ls).length → (convL (fewestF lots samples spread ls)).Pairwise (· < ·) ∧ ∀ x ∈ convL (fewestF lots samples spread ls), (0 : Int) ≤ x ∧ x < labs.length := fun {ls} hls hpos => by
  have hm : (fewestF lots samples spread ls).getD 0 [] ∈ fewestF lots samples spread ls := by
   rw [List.getD_eq_getElem?_getD, List.getElem?_eq_getElem hpos]
   exact List.getElem_mem _
  obtain ⟨a, b, -, -⟩ := few_mem hm
  exact ⟨List.Pairwise.filter _ a, fun x hx => by have := b x (List.mem_filter.1 hx).1; omega⟩
 obtain ⟨pX, bX⟩ := hconv hlX h1
 rw [← hup pX bX]
 unfold turn
 refine List.filter_congr (fun x hx => ?_)
 have hx := (mem_upto _ _ _).1 hx
 rw [Bool.eq_iff_iff, List.contains_iff_mem, List.contains_iff_mem, convL_mem h0, convL_mem h1]
 obtain ⟨a, b, c, d⟩ := hpq x.toNat (by omega)
 constructor
 ·intro h y hy
  have h2 := h _ (few_turn rfl hlX hpq hc hcX hy)
  exact ((turn_mem _ _ _ _).1 h2).2.2
 ·intro h y hy
  have h2 := h _ (few_turn (labs := rotL t labs) (labsX := labs) hlX rfl hqp (fun o oX ho => hcX oX o ho) (fun o oX ho => hc oX o ho) hy)
  have h3 := ((turn_mem _ _ _ _).1 h2).2.2
  rw [Int.toNat_natCast, b] at h3
  rwa [show ((x.toNat : Nat) : Int) = x by omega] at h3
theorem conv_rot (hok : RoundOk lots samples spread labs) (ht : t < labs.length) :
  (convF lots samples spread (rotL t labs)).2 = (convF lots samples spread labs).2 ∧ (convF lots samples spread (rotL t labs)).1.length = (convF lots samples spread labs).1.length ∧ (convF lots samples spread labs).1.length ≤ labs.length ∧
   ∀ x ∈ (convF lots samples spread labs).1, 0 ≤ x ∧ x < labs.length ∧ (((x.toNat + labs.length - t) % labs.length : Nat) : Int) ∈ (convF lots samples spread (rotL t labs)).1 := by
 have hk := check_of_ok hok
 have hkX := check_of_ok (rot_ok hok ht)
 have h0 := fewest_some hk
 have hm : (fewestF lots samples spread labs).getD 0 [] ∈ fewestF lots samples spread labs := by
  rw [List.getD_eq_getElem?_getD, List.getElem?_eq_getElem h0]
  exact List.getElem_mem _
 obtain ⟨hp, hb, -, hlen⟩ := few_mem hm
 have hcb : ∀ x ∈ convL (fewestF lots samples spread labs), (0 : Int) ≤ x ∧ x < labs.length := fun x hx => hb x (List.mem_filter.1 hx).1
 have hcl : (convL (fewestF lots samples spread labs)).length ≤ labs.length := Nat.le_trans (List.length_filter_le _ _) hlen
 have hlt := turn_length (p := fun j => (j + t) % labs.length) (q := fun j => (j + labs.length - t) % labs.length) (fun j hj => pq labs.length t j ht hj) (pairwise_nodup (List.Pairwise.filter (convP (fewestF lots samples spread labs)) hp)) hcb
 have e : convF lots samples spread labs = if convL (fewestF lots samples spread labs) = [] then ([], 7) else (convL (fewestF lots samples spread labs), 0) := by unfold convF; rw [if_pos hk]
 have eX : convF lots samples spread (rotL t labs) = if convL (fewestF lots samples spread (rotL t labs)) = [] then ([], 7) else (convL (fewestF lots samples spread (rotL t labs)), 0) := by unfold convF; rw [if_pos hkX]
 rw [e, eX, conv_turn hok ht]
 have hlt : (turn labs.length (fun j => (j + t) % labs.length) (convL (fewestF lots samples spread labs))).length = (convL (fewestF lots samples spread labs)).length := hlt
 generalize convL (fewestF lots samples spread labs) = l at *
 by_cases hn : l = []
 ·subst hn
  rw [if_pos rfl, if_pos (List.eq_nil_of_length_eq_zero hlt)]
  exact ⟨rfl, rfl, Nat.zero_le _, fun x hx => by cases hx⟩
 ·rw [if_neg hn, if_neg (fun h => hn (List.eq_nil_of_length_eq_zero (by rw [← hlt, h]; rfl)))]
  refine ⟨rfl, hlt, hcl, fun x hx => ?_⟩
  obtain ⟨b0, b1⟩ := hcb x hx
  obtain ⟨_, _, c, d⟩ := pq labs.length t x.toNat ht (by omega)
  refine ⟨b0, b1, ?_⟩
  show (((x.toNat + labs.length - t) % labs.length : Nat) : Int) ∈ turn labs.length (fun j => (j + t) % labs.length) l
  rw [turn_mem]
  refine ⟨by omega, by omega, ?_⟩
  rw [Int.toNat_natCast]
  simp only [d]
  rwa [show ((x.toNat : Nat) : Int) = x by omega]
end
end Go.Proofs.Ytcpbhklaffgokaa.Q
namespace Go.Proofs.Ytcpbhklaffgokaa.Q
open Go.RowKit Go.Proofs.YtcpbhklaffgokaaW.PrintWords Go.Proofs.YtcpbhklaffgokaaW.PrintLast Go.Proofs.YtcpbhklaffgokaaW.PrintMore
set_option linter.unusedVariables false
set_option linter.unusedSimpArgs false
theorem raw_C {α : Type} {d : Kd α} {w : World} {A : Option Addr} {xs : List α} (h : d.C w A xs.length xs) :
  ∃ rows : List (List Value), rows.length = xs.length ∧ (Kd.raw d.sz).C w A rows.length rows ∧ ∀ (j : Nat) (p : α), xs[j]? = some p → ∃ c, rows[j]? = some c ∧ d.K w p c := by
 obtain ⟨h1, h2, h3⟩ := h
 by_cases hn : 0 < xs.length
 ·obtain ⟨ad, hA, hc⟩ := h3 hn
  have key : ∀ j : Fin xs.length, ∃ c : List Value, c.length = d.sz ∧ d.K w xs[j] c ∧ ∀ i u, c[i]? = some u → w.cell? (ad.add (j.1 * d.sz + i)) = some u := fun j => hc j.1 _ (List.getElem?_eq_getElem j.2)
  have hf := fun j => Classical.choose_spec (key j)
  have hg : ∀ (j : Nat) (p : List Value), (List.ofFn fun j => Classical.choose (key j))[j]? = some p → ∃ hj : j < xs.length, p = Classical.choose (key ⟨j, hj⟩) := fun j p hp => by
   have hj : j < xs.length := by
    have := (List.getElem?_eq_some_iff.1 hp).1
    rwa [List.length_ofFn] at this
   refine ⟨hj, ?_⟩
   rw [List.getElem?_eq_getElem (by rw [List.length_ofFn]; exact hj), List.getElem_ofFn] at hp
   exact (Option.some.inj hp).symm
  refine ⟨List.ofFn fun j => Classical.choose (key j), List.length_ofFn, ⟨rfl, by rw [List.length_ofFn]; exact h2, fun _ => ⟨ad, hA, fun j p hp => ?_⟩⟩, fun j p hp => ?_⟩
  ·obtain ⟨hj, rfl⟩ := hg j p hp
   obtain ⟨a, b, c⟩ := hf ⟨j, hj⟩
   exact ⟨_, a, ⟨rfl, a, d.K_one b⟩, c⟩
  ·have hj := (List.getElem?_eq_some_iff.1 hp).1
   obtain ⟨a, b, c⟩ := hf ⟨j, hj⟩
   refine ⟨Classical.choose (key ⟨j, hj⟩), ?_, ?_⟩
   ·rw [List.getElem?_eq_getElem (by rw [List.length_ofFn]; exact hj), List.getElem_ofFn]
   ·have e : xs[j] = p := (List.getElem?_eq_some_iff.1 hp).2
    rw [← e]
    exact b
 ·have hx : xs = [] := List.eq_nil_of_length_eq_zero (by omega)
  subst hx
  exact ⟨[], rfl, ⟨rfl, by simp, fun h => absurd h (by simp)⟩, fun j p hp => by simp at hp⟩
theorem raw_C' {α : Type} {d : Kd α} {w : World} {A : Option Addr} {xs : List α} (h : d.C w A xs.length xs) :
  ∃ rows : List (List Value), rows.length = xs.length ∧ (Kd.raw d.sz).C w A xs.length rows ∧ ∀ (j : Nat) (p : α), xs[j]? = some p → ∃ c, rows[j]? = some c ∧ d.K w p c := by
 obtain ⟨rows, hl, hC, hk⟩ := raw_C h
 refine ⟨rows, hl, ?_, hk⟩
 rw [← hl]
 exact hC
theorem C_raw {α : Type} {d : Kd α} {w : World} {A : Option Addr} {xs : List α} {rows : List (List Value)} (hl : rows.length = xs.length) (h : (Kd.raw d.sz).C w A rows.length rows) (hk : ∀ (j : Nat) (p : α), xs[j]? = some p → ∃ c, rows[j]? = some c ∧ d.K w p c) : d.C w A xs.length xs := by
 obtain ⟨h1, h2, h3⟩ := h
 refine ⟨rfl, by rw [← hl]; exact h2, fun hn => ?_⟩
 obtain ⟨ad, hA, hc⟩ := h3 (by omega)
 refine ⟨ad, hA, fun j p hp => ?_⟩
 obtain ⟨c, hj, hK⟩ := hk j p hp
 obtain ⟨c', a, ⟨rfl, b, e⟩, f⟩ := hc j c hj
 exact ⟨c', a, hK, f⟩
end Go.Proofs.Ytcpbhklaffgokaa.Q
namespace Go.Proofs.Ytcpbhklaffgokaa.Q
open Go.RowKit Go.Proofs.YtcpbhklaffgokaaW.PrintWords Go.Proofs.YtcpbhklaffgokaaW.PrintLast Go.Proofs.YtcpbhklaffgokaaW.PrintMore
set_option linter.unusedVariables false
set_option linter.unusedSimpArgs false
theorem raw_drop {w : World} {ad : Addr} {n t : Nat} {rows : List (List Value)} (h : (Kd.raw 2).C w (some ad) n rows) (ht : t ≤ n) : (Kd.raw 2).C w (some (ad.add (t * 2))) (n - t) (rows.drop t) := by
 obtain ⟨h1, h2, h3⟩ := h
 refine ⟨by rw [List.length_drop]; omega, by omega, fun hn => ⟨_, rfl, fun j p hj => ?_⟩⟩
 have hn' : 0 < n - t := hn
 obtain ⟨ad', hA, hc⟩ := h3 (by omega)
 injection hA with hA
 subst hA
 rw [List.getElem?_drop] at hj
 obtain ⟨c, a, b, e⟩ := hc _ p hj
 refine ⟨c, a, b, fun i u hu => ?_⟩
 have := e i u hu
 have e3 : (Kd.raw 2).sz = 2 := rfl
 rw [e3] at this ⊢
 have e2 : (ad.add (t * 2)).add (j * 2 + i) = ad.add ((t + j) * 2 + i) := by
  rw [show (t + j) * 2 + i = t * 2 + (j * 2 + i) by omega]
  simp only [Addr.add]
  by_cases h1 : t * 2 = 0
  ·by_cases h2 : j * 2 + i = 0
   ·rw [if_pos h1, if_pos h2, if_pos (by omega)]
   ·rw [if_pos h1, if_neg h2, if_neg (by omega), h1, Nat.zero_add]
  ·by_cases h2 : j * 2 + i = 0
   ·rw [if_neg h1, if_pos h2, if_neg (by omega), h2, Nat.add_zero]
   ·rw [if_neg h1, if_neg h2, if_neg (by omega)]
    simp only [Nat.add_assoc]
 rw [e2]
 exact this
theorem raw_take {w : World} {A : Option Addr} {n t : Nat} {rows : List (List Value)} (h : (Kd.raw 2).C w A n rows) (ht : t ≤ n) : (Kd.raw 2).C w A t (rows.take t) := by
 obtain ⟨h1, h2, h3⟩ := h
 refine ⟨by rw [List.length_take]; omega, by omega, fun hn => ?_⟩
 obtain ⟨ad, hA, hc⟩ := h3 (by omega)
 refine ⟨ad, hA, fun j p hj => ?_⟩
 rw [List.getElem?_take] at hj
 split at hj
 ·exact hc j p hj
 ·cases hj
theorem rot_rows {w : World} {labs : List S62} {rb : List (List Value)} {t : Nat} (ht : t < labs.length) (hl : rb.length = labs.length) (hk : ∀ (j : Nat) (p : S62), labs[j]? = some p → ∃ c, rb[j]? = some c ∧ k62.K w p c) :
  ∀ (j : Nat) (p : S62), (rotL t labs)[j]? = some p → ∃ c, (rotL t rb)[j]? = some c ∧ k62.K w p c := by
 intro j p hp
 unfold rotL at hp ⊢
 rw [List.getElem?_append, List.length_drop] at hp ⊢
 rw [hl]
 by_cases h : j < labs.length - t
 ·rw [if_pos h, List.getElem?_drop] at hp
  rw [if_pos h, List.getElem?_drop]
  exact hk _ p hp
 ·rw [if_neg h, List.getElem?_take] at hp
  rw [if_neg h, List.getElem?_take]
  split at hp
  ·rename_i h2
   rw [if_pos h2]
   exact hk _ p hp
  ·cases hp
end Go.Proofs.Ytcpbhklaffgokaa.Q
namespace Go.Proofs.Ytcpbhklaffgokaa.Q
open Go.RowKit Go.Proofs.YtcpbhklaffgokaaW.PrintWords Go.Proofs.YtcpbhklaffgokaaW.PrintLast Go.Proofs.YtcpbhklaffgokaaW.PrintMore
set_option linter.unusedVariables false
set_option linter.unusedSimpArgs false
def othF (n t : Nat) (bs : Int) : Nat → Int
 | 0 => 0
 | k + 1 => if bitB bs (k : Int) = true then Go.bits .or .u8 (othF n t bs k) (2 ^ ((k + n - t) % n)) else othF n t bs k
theorem othF_succ (n t : Nat) (bs : Int) (k : Nat) : othF n t bs (k + 1) = if bitB bs (k : Int) = true then Go.bits .or .u8 (othF n t bs k) (2 ^ ((k + n - t) % n)) else othF n t bs k := rfl
set_option maxRecDepth 100000 in
theorem or_bit : ∀ x : Fin 64, ∀ s : Fin 6, (0 ≤ Go.bits .or .u8 (x.1 : Int) (2 ^ s.1) ∧ Go.bits .or .u8 (x.1 : Int) (2 ^ s.1) < 64) ∧ ∀ j : Fin 6, bitB (Go.bits .or .u8 (x.1 : Int) (2 ^ s.1)) (j.1 : Int) = (bitB (x.1 : Int) (j.1 : Int) || decide (j.1 = s.1)) := by
 decide +kernel
theorem bit_zero : ∀ j : Fin 6, bitB 0 (j.1 : Int) = false := by decide +kernel
theorem othF_spec (n t : Nat) (bs : Int) (hn : n ≤ 6) (ht : t < n) : ∀ k, k ≤ n → (0 ≤ othF n t bs k ∧ othF n t bs k < 64) ∧ ∀ j, j < n → (bitB (othF n t bs k) (j : Int) = true ↔ ∃ i, i < k ∧ bitB bs (i : Int) = true ∧ (i + n - t) % n = j) := by
 intro k
 induction k with
 | zero =>
  intro _
  refine ⟨⟨Int.le_refl _, by show (0 : Int) < 64; omega⟩, fun j hj => ?_⟩
  rw [show othF n t bs 0 = 0 from rfl, bit_zero ⟨j, by omega⟩]
  exact ⟨(fun h => by cases h), fun ⟨i, hi, _⟩ => by omega⟩
 | succ k ih =>
  intro hk
  obtain ⟨⟨b0, b1⟩, hb⟩ := ih (by omega)
  rw [othF_succ]
  by_cases h : bitB bs (k : Int) = true
  ·rw [if_pos h]
   obtain ⟨_, _, c, _⟩ := pq n t k ht (by omega)
   have ho := or_bit ⟨(othF n t bs k).toNat, by omega⟩ ⟨(k + n - t) % n, by omega⟩
   have e : (((othF n t bs k).toNat : Nat) : Int) = othF n t bs k := by omega
   simp only [e] at ho
   refine ⟨ho.1, fun j hj => ?_⟩
   have h2 := ho.2 ⟨j, by omega⟩
   simp only at h2
   rw [h2, Bool.or_eq_true, decide_eq_true_eq, hb j hj]
   constructor
   ·rintro (⟨i, hi, h3, h4⟩ | h3)
    ·exact ⟨i, by omega, h3, h4⟩
    ·exact ⟨k, by omega, h, h3.symm⟩
   ·rintro ⟨i, hi, h3, h4⟩
    by_cases e : i = k
    ·subst e
     exact .inr h4.symm
    ·exact .inl ⟨i, by omega, h3, h4⟩
  ·rw [if_neg h]
   refine ⟨⟨b0, b1⟩, fun j hj => ?_⟩
   rw [hb j hj]
   constructor
   ·rintro ⟨i, hi, h3, h4⟩
    exact ⟨i, by omega, h3, h4⟩
   ·rintro ⟨i, hi, h3, h4⟩
    by_cases e : i = k
    ·subst e
     exact absurd h3 h
    ·exact ⟨i, by omega, h3, h4⟩
theorem oth_off (n t : Nat) (bs : Int) (hn : n ≤ 6) (ht : t < n) (j : Nat) (hj : j < n) : offOf (chosenF n (othF n t bs n)) j = offOf (chosenF n bs) ((j + t) % n) := by
 obtain ⟨a, b, _, _⟩ := pq n t j ht hj
 rw [off_chosen n _ j hj, off_chosen n _ _ a, Bool.eq_iff_iff, (othF_spec n t bs hn ht n (Nat.le_refl _)).2 j hj]
 constructor
 ·rintro ⟨i, hi, h1, h2⟩
  obtain ⟨_, _, _, d⟩ := pq n t i ht hi
  rw [h2] at d
  rw [d]
  exact h1
 ·intro h
  exact ⟨_, a, h, b⟩
end Go.Proofs.Ytcpbhklaffgokaa.Q
namespace Go.Proofs.Ytcpbhklaffgokaa.Q
open Go.RowKit Go.Proofs.YtcpbhklaffgokaaW.PrintWords Go.Proofs.YtcpbhklaffgokaaW.PrintLast Go.Proofs.YtcpbhklaffgokaaW.PrintMore
set_option linter.unusedVariables false
set_option linter.unusedSimpArgs false
theorem eqA46 (d : Nat) (w : World) (x0 y0 : Int) (x1 y1 : Int) :
  (Op.equalIn (d + 2) 46 (.agg #[.int .i64 x0, .int .i64 x1]) (.agg #[.int .i64 y0, .int .i64 y1])).run Try.prog w = .ok (x0 == y0 && (x1 == y1)) w := by
 refine eqA_of Try.underlying46 (by kernel_rfl) ?_
 refine eqf_cons (by rfl) (by go_simp; rfl) (by go_simp; rfl) (by go_simp) ?_
 exact eqf_last (by rfl) (by go_simp; rfl) (by go_simp; rfl) (by go_simp)
attribute [local go_sem high] eqA46
theorem sh_eq (n t k : Nat) (hn : n ≤ 6) (ht : t < n) (hk : k < n) : (2 : Int) ^ min (IntKind.u64.wrap (((k : Int) + (n : Int) - (t : Int)) % (n : Int))).toNat 8 % 256 = 2 ^ ((k + n - t) % n) := by
 obtain ⟨_, _, c, _⟩ := pq n t k ht hk
 have e : ((k : Int) + (n : Int) - (t : Int)) % (n : Int) = (((k + n - t) % n : Nat) : Int) := by
  rw [show (k : Int) + (n : Int) - (t : Int) = ((k + n - t : Nat) : Int) by omega]
  rfl
 rw [e, IntWalk.u64_in _ (by omega), Int.toNat_natCast, Nat.min_eq_left (by omega)]
 have : (k + n - t) % n < 6 := by omega
 generalize (k + n - t) % n = m at this
 match m, this with
 | 0, _ => rfl
 | 1, _ => rfl
 | 2, _ => rfl
 | 3, _ => rfl
 | 4, _ => rfl
 | 5, _ => rfl
theorem has_at5 {W : World} (A : Option Addr) (c : Nat) (l : List Int) (x : Int) (hC : (Kd.int .i64).C W A l.length l) (hc : l.length ≤ c) (hl : l.length ≤ 9223372036854775807) : Calls Try.prog 39 #[.slice A l.length c, .int .i64 x] W fun e w' => e = .returned (.bool (l.contains x)) ∧ Below W.heap.size W w' := by
 obtain ⟨k, hk⟩ := Ev_rounds (Has_ev l x hl)
 refine (tensileref08_Has.calls k A c l x _ W hC hc hk).mono ?_
 rintro e w' ⟨rfl, ⟨m, rfl⟩⟩
 exact ⟨rfl, pw_below_drewN (Below.refl _ _) m⟩
theorem explains_to {W : World} {u x : Value} {lots : List S46} {samples : List Int} {spread : Int} {labs : List S75} {l : List Int} {a : Bool} {er : Int} (h : In34 W u lots samples spread labs) (hx : InL W x l) (hl : l.length < 17592186044416) (he : explainsF lots samples spread labs l = (a, er)) : Calls Try.prog 21 #[u, x] W (RetB W (.tuple #[.bool a, .int .i64 er])) := by
 have := explains_at h hx hl
 rwa [he] at this
theorem shifts_to {W : World} {u : Value} {lots : List S46} {samples : List Int} {spread : Int} {labs : List S75} {lab t0 t1 er : Int} (h : In34 W u lots samples spread labs) (he : shiftsF lots samples spread labs lab = (⟨t0, t1⟩, er)) : Calls Try.prog 32 #[u, .int .i64 lab] W (fun e w' => e = .returned (.tuple #[.agg #[.int .i64 t0, .int .i64 t1], .int .i64 er]) ∧ Below W.heap.size W w') := by
 have := shifts_at h lab
 rw [he] at this
 exact this
theorem inL_mk5 {W : World} {A : Option Addr} {c : Nat} {l : List Int} (hc : l.length ≤ c) (hC : (Kd.int .i64).C W A l.length l) : InL W (.slice A l.length c) l := ⟨A, c, rfl, hc, hC⟩
set_option maxHeartbeats 4000000 in
set_option maxRecDepth 100000 in
theorem order_no {W : World} {v : Value} {A0 : Option Addr} {c0 : Nat} {lots : List S44} {A1 : Option Addr} {c1 : Nat} {samples : List Int} {spread : Int} {A3 : Option Addr} {c3 : Nat} {labs : List S62} (h : In26 W v A0 c0 lots A1 c1 samples spread A3 c3 labs) (bits by_ : Int) (hr : Ev (fun k => tensilelaw08_ready.f k lots samples spread labs) false)  :
  Calls Try.prog 16 #[.agg #[.slice A0 lots.length c0, .slice A1 samples.length c1, .int .i64 spread, .slice A3 labs.length c3], .int .u8 bits, .int .u8 by_] W (RetB W (.bool true)) := by
 have HI := Aside0.mk h
 have HB := Aside0.mk (below_alloc (Below.refl _ W) (.cells #[.slice A0 lots.length c0, .slice A1 samples.length c1, .int .i64 spread, .slice A3 labs.length c3] 26))
 have B3 := Aside0.mk (blk_new W (.cells #[.slice A0 lots.length c0, .slice A1 samples.length c1, .int .i64 spread, .slice A3 labs.length c3] 26))
 obtain ⟨p0, p1, p2, p3⟩ := cells4 B3.out
 have lt_B3 := blk_lt B3.out
 have HRd := Aside0.mk hr
 clear h hr
 go_enter Try.func16, Try.ntmps16
 go_wp2_with (first | (go_at_call 35; (with_reducible refine (ready_at (HI.out.below (by repeat (first | (with_reducible exact HB.out) | apply below_alloc | apply pw_below_drewN | apply below_drew1 | refine below_set ?_ (by omega)))) HRd.out).mono ?_); rintro e w1 ⟨rfl, hb⟩; replace HB := Aside0.mk (below_step (by repeat (first | (with_reducible exact HB.out) | apply below_alloc | apply pw_below_drewN | apply below_drew1 | refine below_set ?_ (by omega))) hb); replace B3 := Aside0.mk (blk_below (g := W.heap.size) (o := .cells #[.slice A0 lots.length c0, .slice A1 samples.length c1, .int .i64 spread, .slice A3 labs.length c3] 26 (0, 0)) (by (with_reducible repeat (first | exact B3.out | refine blk_drewN ?_ _ | refine blk_drew ?_ | refine blk_alloc ?_ _))) hb); clear hb; (try clear p0 p1 p2 p3); (try clear lt_B3); have lt_B3 := blk_lt B3.out; obtain ⟨p0, p1, p2, p3⟩ := cells4 B3.out) | (go_at_call 18; (with_reducible refine (wakes_any _).mono ?_); rintro e w9 ⟨rfl, hb⟩; replace HB := Aside0.mk (below_step (by repeat (first | (with_reducible exact HB.out) | apply below_alloc | apply pw_below_drewN | apply below_drew1 | refine below_set ?_ (by omega))) hb); replace B3 := Aside0.mk (blk_below (g := W.heap.size) (o := .cells #[.slice A0 lots.length c0, .slice A1 samples.length c1, .int .i64 spread, .slice A3 labs.length c3] 26 (0, 0)) (by (with_reducible repeat (first | exact B3.out | refine blk_drewN ?_ _ | refine blk_drew ?_ | refine blk_alloc ?_ _))) hb); clear hb; (try clear p0 p1 p2 p3); (try clear lt_B3); have lt_B3 := blk_lt B3.out; obtain ⟨p0, p1, p2, p3⟩ := cells4 B3.out))
 go_ret
 exact ⟨rfl, HB.out⟩
set_option maxHeartbeats 4000000 in
set_option maxRecDepth 100000 in
theorem order_none {W : World} {v : Value} {A0 : Option Addr} {c0 : Nat} {lots : List S44} {A1 : Option Addr} {c1 : Nat} {samples : List Int} {spread : Int} {A3 : Option Addr} {c3 : Nat} {labs : List S62} (h : In26 W v A0 c0 lots A1 c1 samples spread A3 c3 labs) (bits by_ : Int) (hr : Ev (fun k => tensilelaw08_ready.f k lots samples spread labs) true) (hm : labs.length = 0) :
  Calls Try.prog 16 #[.agg #[.slice A0 lots.length c0, .slice A1 samples.length c1, .int .i64 spread, .slice A3 labs.length c3], .int .u8 bits, .int .u8 by_] W (RetB W (.bool true)) := by
 have HI := Aside0.mk h
 have HB := Aside0.mk (below_alloc (Below.refl _ W) (.cells #[.slice A0 lots.length c0, .slice A1 samples.length c1, .int .i64 spread, .slice A3 labs.length c3] 26))
 have B3 := Aside0.mk (blk_new W (.cells #[.slice A0 lots.length c0, .slice A1 samples.length c1, .int .i64 spread, .slice A3 labs.length c3] 26))
 obtain ⟨p0, p1, p2, p3⟩ := cells4 B3.out
 have lt_B3 := blk_lt B3.out
 have HRd := Aside0.mk hr
 clear h hr
 have d2 : ((labs.length : Int) == 0) = true := beq_iff_eq.2 (by omega)
 clear hm
 go_enter Try.func16, Try.ntmps16
 go_wp2_with (first | (go_at_call 35; (with_reducible refine (ready_at (HI.out.below (by repeat (first | (with_reducible exact HB.out) | apply below_alloc | apply pw_below_drewN | apply below_drew1 | refine below_set ?_ (by omega)))) HRd.out).mono ?_); rintro e w1 ⟨rfl, hb⟩; replace HB := Aside0.mk (below_step (by repeat (first | (with_reducible exact HB.out) | apply below_alloc | apply pw_below_drewN | apply below_drew1 | refine below_set ?_ (by omega))) hb); replace B3 := Aside0.mk (blk_below (g := W.heap.size) (o := .cells #[.slice A0 lots.length c0, .slice A1 samples.length c1, .int .i64 spread, .slice A3 labs.length c3] 26 (0, 0)) (by (with_reducible repeat (first | exact B3.out | refine blk_drewN ?_ _ | refine blk_drew ?_ | refine blk_alloc ?_ _))) hb); clear hb; (try clear p0 p1 p2 p3); (try clear lt_B3); have lt_B3 := blk_lt B3.out; obtain ⟨p0, p1, p2, p3⟩ := cells4 B3.out) | (go_at_call 18; (with_reducible refine (wakes_any _).mono ?_); rintro e w9 ⟨rfl, hb⟩; replace HB := Aside0.mk (below_step (by repeat (first | (with_reducible exact HB.out) | apply below_alloc | apply pw_below_drewN | apply below_drew1 | refine below_set ?_ (by omega))) hb); replace B3 := Aside0.mk (blk_below (g := W.heap.size) (o := .cells #[.slice A0 lots.length c0, .slice A1 samples.length c1, .int .i64 spread, .slice A3 labs.length c3] 26 (0, 0)) (by (with_reducible repeat (first | exact B3.out | refine blk_drewN ?_ _ | refine blk_drew ?_ | refine blk_alloc ?_ _))) hb); clear hb; (try clear p0 p1 p2 p3); (try clear lt_B3); have lt_B3 := blk_lt B3.out; obtain ⟨p0, p1, p2, p3⟩ := cells4 B3.out))
 go_ret
 exact ⟨rfl, HB.out⟩
def od.T6 : Bool × List (List Nat × List Nat) := (true, [([], []), ([], []), ([1], [1]), ([], []), ([2, 3], [2, 3]), ([0, 4], [0, 4]), ([], []), ([6], [6]), ([], []), ([7, 8], [7, 8]), ([5, 9, 5], [5, 9]), ([0, 1, 2, 3, 4, 5, 6, 7, 8, 9, 10], []), ([11, 10, 10, 0, 1, 2, 3, 4, 5, 6, 7, 8, 9, 10], [10, 11])])
def od.B6 : List Nat := [0, 0, 2, 0, 14, 31, 0, 64, 0, 448, 1023, 2047, 4095]
theorem od.tab6 : rtab .any (opsOf Try.f16 6) = od.T6 := by kernel_rfl
theorem od.bits6 : waitsOk od.T6.2 od.B6 = true := by kernel_rfl
def od.T13 : Bool × List (List Nat × List Nat) := (true, [([], []), ([0], [0]), ([], []), ([], []), ([2, 3, 1], [2, 3]), ([1, 4, 4], [1, 4]), ([5], [5]), ([6], [6]), ([6], [6]), ([7, 5, 0, 1, 2, 3, 4, 5, 6, 7], [7]), ([8, 9, 0, 1, 2, 3, 4, 5, 6, 7, 8, 9], [8])])
def od.B13 : List Nat := [0, 1, 0, 0, 15, 31, 63, 127, 127, 255, 1023]
theorem od.tab13 : rtab .any (opsOf Try.f16 13) = od.T13 := by kernel_rfl
theorem od.bits13 : waitsOk od.T13.2 od.B13 = true := by kernel_rfl
def od.T14 : Bool × List (List Nat × List Nat) := (true, [([], []), ([0], [0]), ([], []), ([], []), ([2, 3, 1], [2, 3]), ([1, 4, 4], [1, 4]), ([5], [5]), ([6], [6]), ([6], [6]), ([7, 5, 0, 1, 2, 3, 4, 5, 6, 7], [7]), ([8, 9, 0, 1, 2, 3, 4, 5, 6, 7, 8, 9], [8])])
def od.B14 : List Nat := [0, 1, 0, 0, 15, 31, 63, 127, 127, 255, 1023]
theorem od.tab14 : rtab .any (opsOf Try.f16 14) = od.T14 := by kernel_rfl
theorem od.bits14 : waitsOk od.T14.2 od.B14 = true := by kernel_rfl
set_option maxHeartbeats 4000000 in
set_option maxRecDepth 100000 in
theorem order_at {W : World} {v : Value} {A0 : Option Addr} {c0 : Nat} {lots : List S44} {A1 : Option Addr} {c1 : Nat} {samples : List Int} {spread : Int} {A3 : Option Addr} {c3 : Nat} {labs : List S62} (h : In26 W v A0 c0 lots A1 c1 samples spread A3 c3 labs) (bits by_ : Int) (hr : Ev (fun k => tensilelaw08_ready.f k lots samples spread labs) true) (hth : ThinR lots samples labs) (tn : Nat) (hthx : ThinR lots samples (rotL tn labs)) (h6 : labs.length ≤ 6) (hy0 : 0 ≤ by_) (hy1 : by_ < 256) (htn : tn < labs.length) (ht : Int.tmod by_ (labs.length : Int) = (tn : Int)) (off offX : List Int) (hof : chosenF labs.length bits = off) (hofX : chosenF labs.length (othF labs.length tn bits labs.length) = offX) (hol : off.length ≤ 6) (holX : offX.length ≤ 6) (a : Bool) (he1 : explainsF (lots.map m46) samples spread (labs.map m75) off = (a, 0)) (he2 : explainsF (lots.map m46) samples spread ((rotL tn labs).map m75) offX = (a, 0)) (cl cm : List Int) (ge : Int) (hc1 : convF (lots.map m46) samples spread (labs.map m75) = (cl, ge)) (hc2 : convF (lots.map m46) samples spread ((rotL tn labs).map m75) = (cm, ge)) (hcl1 : cl.length ≤ cm.length) (hcl2 : cm.length ≤ cl.length) (hcl3 : cl.length ≤ 6) (hcm : ∀ i : Nat, i < cl.length → 0 ≤ rd cl (i : Int) ∧ rd cl (i : Int) < labs.length ∧ cm.contains ((rd cl (i : Int) + (labs.length : Int) - (tn : Int)) % (labs.length : Int)) = true) (s0 s1 se : Int) (hs1 : shiftsF (lots.map m46) samples spread (labs.map m75) (tn : Int) = (⟨s0, s1⟩, se)) (hs2 : shiftsF (lots.map m46) samples spread ((rotL tn labs).map m75) 0 = (⟨s0, s1⟩, se)) :
  Calls Try.prog 16 #[.agg #[.slice A0 lots.length c0, .slice A1 samples.length c1, .int .i64 spread, .slice A3 labs.length c3], .int .u8 bits, .int .u8 by_] W (RetB W (.bool true)) := by
 have HI := Aside0.mk h
 have HB := Aside0.mk (below_alloc (Below.refl _ W) (.cells #[.slice A0 lots.length c0, .slice A1 samples.length c1, .int .i64 spread, .slice A3 labs.length c3] 26))
 have B3 := Aside0.mk (blk_new W (.cells #[.slice A0 lots.length c0, .slice A1 samples.length c1, .int .i64 spread, .slice A3 labs.length c3] 26))
 obtain ⟨p0, p1, p2, p3⟩ := cells4 B3.out
 have lt_B3 := blk_lt B3.out
 have HRd := Aside0.mk hr
 have HTh := Aside0.mk hth
 obtain ⟨rb, hbl, hbC, hbK⟩ := raw_C' h.r3
 have HBC := Aside0.mk hbC
 have HBK := Aside0.mk hbK
 have HBL := Aside0.mk hbl
 have e1 : IntKind.i64.wrap by_ = by_ := IntWalk.i64_in _ (by omega)
 have d2 : ((labs.length : Int) == 0) = false := beq_eq_false_iff_ne.2 (by omega)
 have d3 : ¬ (labs = []) := fun h_ => by rw [h_] at htn; exact absurd htn (Nat.not_lt_zero _)
 obtain ⟨ad, had⟩ : ∃ ad, A3 = some ad := by obtain ⟨ad, hA, -⟩ := hbC.2.2 (by omega); exact ⟨ad, hA⟩
 subst had
 have hcap := h.h3
 obtain ⟨L2, hL2⟩ : ∃ L, rotL tn labs = L := ⟨_, rfl⟩
 rw [hL2] at hthx he2 hc2 hs2
 have HThX := Aside0.mk hthx
 have HOf := Aside0.mk hof
 have HE1 := Aside0.mk he1
 have HE2 := Aside0.mk he2
 have HC1 := Aside0.mk hc1
 have HC2 := Aside0.mk hc2
 have HS1 := Aside0.mk hs1
 have HS2 := Aside0.mk hs2
 have HCM := Aside0.mk hcm
 have HOfX9 := Aside0.mk hofX
 have hln : off.length < 17592186044416 := by omega
 have hlnX : offX.length < 17592186044416 := by omega
 have HL2 := Aside0.mk hL2
 clear h hr hth hthx hof hofX he1 he2 hc1 hc2 hs1 hs2 hcm hbC hbK hbl hL2
 go_enter Try.func16, Try.ntmps16
 go_upto_region 6 with (first | (go_at_call 35; (with_reducible refine (ready_at (HI.out.below (by repeat (first | (with_reducible exact HB.out) | apply below_alloc | apply pw_below_drewN | apply below_drew1 | refine below_set ?_ (by omega)))) HRd.out).mono ?_); rintro e w1 ⟨rfl, hb⟩; replace HB := Aside0.mk (below_step (by repeat (first | (with_reducible exact HB.out) | apply below_alloc | apply pw_below_drewN | apply below_drew1 | refine below_set ?_ (by omega))) hb); replace B3 := Aside0.mk (blk_below (g := W.heap.size) (o := .cells #[.slice A0 lots.length c0, .slice A1 samples.length c1, .int .i64 spread, .slice (some ad) labs.length c3] 26 (0, 0)) (by (with_reducible repeat (first | exact B3.out | refine blk_drewN ?_ _ | refine blk_drew ?_ | refine blk_alloc ?_ _))) hb); clear hb; (try clear p0 p1 p2 p3); (try clear lt_B3); have lt_B3 := blk_lt B3.out; obtain ⟨p0, p1, p2, p3⟩ := cells4 B3.out))
 have BX := Aside0.mk (blk_new w1 (.cells #[.slice A0 lots.length c0, .slice A1 samples.length c1, .int .i64 spread, .slice (some ad) labs.length c3] 26))
 have lt_1 := blk_lt B3.out
 replace B3 := Aside0.mk (blk_alloc B3.out (.cells #[.slice A0 lots.length c0, .slice A1 samples.length c1, .int .i64 spread, .slice (some ad) labs.length c3] 26))
 replace HB := Aside0.mk (below_alloc HB.out (.cells #[.slice A0 lots.length c0, .slice A1 samples.length c1, .int .i64 spread, .slice (some ad) labs.length c3] 26))
 generalize w1.alloc (.cells #[.slice A0 lots.length c0, .slice A1 samples.length c1, .int .i64 spread, .slice (some ad) labs.length c3] 26) = w2 at BX B3 HB ⊢
 have t0 : (0 ≤ (tn : Int)) = True := eq_true (by omega)
 have t1 : (tn ≤ labs.length) = True := eq_true (by omega)
 have t2 : ((tn : Int) ≤ (labs.length : Int)) = True := eq_true (by omega)
 have t3 : (labs.length ≤ c3) = True := eq_true hcap
 have t4 : (c3 = tn) = False := eq_false (by omega)
 have t5 : (tn ≤ c3) = True := eq_true (by omega)
 refine start_ (n := 13) (S := fun w' => w'.cell? ⟨W.heap.size, 3, none⟩ = some (.slice (some ad) labs.length c3)) (ds := [12]) #[false, false, false, false, false, false, false, false, false, false, false, false, false] (by kernel_rfl) rfl rfl ((blk_cell (blk_drew B3.out) 3).trans rfl) (fun hHeld => ?_)
 refine with_tabW od.tab6 od.bits6 (fun HT_ HW_ => ?_)
 replace B3 := Aside0.mk (blk_drew B3.out)
 replace BX := Aside0.mk (blk_drew BX.out)
 replace HB := Aside0.mk (below_drew1 HB.out)
 clear p0 p1 p2 p3 lt_B3
 generalize w2.drew = w3 at B3 BX HB hHeld ⊢
 have HD := Aside0.mk (Below.refl w3.heap.size w3)
 refine pure_ (i := 1) (N := some 44) (v := ?_) (a' := ?_) #[false, true, false, false, false, false, false, false, false, false, false, false, false] rfl rfl (any_of HT_.out (by kernel_rfl)) (fun _ _ _ h => h) (Or.inl ⟨by rfl, ?_⟩) ?_ ?_
 rotate_left
 ·intro w'
  go_simp
  with_reducible rfl
 rotate_left
 ·simp only [Act.put, List.setIfInBounds_toArray, List.set_cons_zero, List.set_cons_succ, i64_w, i32_w]
  rfl
 refine pure_ (i := 3) (N := some 46) (v := ?_) (a' := ?_) #[false, true, false, true, false, false, false, false, false, false, false, false, false] rfl rfl (any_of HT_.out (by kernel_rfl)) (fun _ _ _ h => h) (Or.inl ⟨by rfl, ?_⟩) ?_ ?_
 rotate_left
 ·intro w'
  go_simp
  with_reducible rfl
 rotate_left
 ·simp only [Act.put, List.setIfInBounds_toArray, List.set_cons_zero, List.set_cons_succ, i64_w, i32_w]
  rfl
 refine pure_ (i := 6) (N := some 49) (v := ?_) (a' := ?_) #[false, true, false, true, false, false, true, false, false, false, false, false, false] rfl rfl (any_of HT_.out (by kernel_rfl)) (fun _ _ _ h => h) (Or.inl ⟨by rfl, ?_⟩) ?_ ?_
 rotate_left
 ·intro w'
  go_simp
  with_reducible rfl
 rotate_left
 ·simp only [Act.put, List.setIfInBounds_toArray, List.set_cons_zero, List.set_cons_succ, i64_w, i32_w]
  rfl
 refine pure_ (i := 8) (N := some 51) (v := ?_) (a' := ?_) #[false, true, false, true, false, false, true, false, true, false, false, false, false] rfl rfl (any_of HT_.out (by kernel_rfl)) (fun _ _ _ h => h) (Or.inl ⟨by rfl, ?_⟩) ?_ ?_
 rotate_left
 ·intro w'
  go_simp
  with_reducible rfl
 rotate_left
 ·simp only [Act.put, List.setIfInBounds_toArray, List.set_cons_zero, List.set_cons_succ, i64_w, i32_w]
  rfl
 refine take_ (i := 2) (N := some 45) (v := ?_) (a' := ?_) #[false, true, true, true, false, false, true, false, true, false, false, false, false] rfl rfl (take_ofW HT_.out HW_.out (by kernel_rfl)) (fun _ _ _ h => h) (Or.inl ⟨by rfl, ?_⟩) hHeld ?_ ?_
 rotate_left
 ·intro w' s0
  go_simp
  with_reducible rfl
 rotate_left
 ·simp only [Act.put, List.setIfInBounds_toArray, List.set_cons_zero, List.set_cons_succ, i64_w, i32_w]
  rfl
 refine pure_ (i := 4) (N := some 47) (v := ?_) (a' := ?_) #[false, true, true, true, true, false, true, false, true, false, false, false, false] rfl rfl (any_of HT_.out (by kernel_rfl)) (fun _ _ _ h => h) (Or.inl ⟨by rfl, ?_⟩) ?_ ?_
 rotate_left
 ·intro w'
  go_simp
  with_reducible rfl
 rotate_left
 ·simp only [Act.put, List.setIfInBounds_toArray, List.set_cons_zero, List.set_cons_succ, i64_w, i32_w]
  rfl
 refine take_ (i := 7) (N := some 50) (v := ?_) (a' := ?_) #[false, true, true, true, true, false, true, true, true, false, false, false, false] rfl rfl (take_ofW HT_.out HW_.out (by kernel_rfl)) (fun _ _ _ h => h) (Or.inl ⟨by rfl, ?_⟩) hHeld ?_ ?_
 rotate_left
 ·intro w' s0
  go_simp
  with_reducible rfl
 rotate_left
 ·simp only [Act.put, List.setIfInBounds_toArray, List.set_cons_zero, List.set_cons_succ, i64_w, i32_w]
  rfl
 refine pure_ (i := 9) (N := some 52) (v := ?_) (a' := ?_) #[false, true, true, true, true, false, true, true, true, true, false, false, false] rfl rfl (any_of HT_.out (by kernel_rfl)) (fun _ _ _ h => h) (Or.inl ⟨by rfl, ?_⟩) ?_ ?_
 rotate_left
 ·intro w'
  go_simp
  with_reducible rfl
 rotate_left
 ·simp only [Act.put, List.setIfInBounds_toArray, List.set_cons_zero, List.set_cons_succ, i64_w, i32_w]
  rfl
 refine one_ (i := 0) (N := some 43) #[true, true, true, true, true, false, true, true, true, true, false, false, false] rfl rfl (one_of HT_.out (by kernel_rfl)) (by decide) (fun K hK => ?_)
 refine Kd.R_lit_step (Kd.raw 2) (w0 := w3) w3.heap.size 62 ?hg (N := 43) ?hd (xs := ([] : List (List Value))) (inner := []) (ok := fun _ => True) (okp := fun _ => True) ?hr ?hp (fun _ hk => hk) trivial HD.out (below_size HD.out) (by simp) ?_; (case hd => rfl); (case hg => rfl); (case hr => first | (go_simp; done) | (go_simp; rfl)); (case hp => exact (Reps.none _ _))
 intro v43 wA ho hb hg hnew
 have HR43 := Aside0.mk ho
 replace HD := Aside0.mk hb
 clear ho hb hg hnew
 refine hK.out _ _ ((blk_cell (blk_below (g := W.heap.size) (o := .cells #[.slice A0 lots.length c0, .slice A1 samples.length c1, .int .i64 spread, .slice (some ad) labs.length c3] 26 (0, 0)) B3.out HD.out) 3).trans rfl) (fun hHeld => ?_)
 clear hK K
 refine norm_ (a' := ?_) ?_ ?_
 rotate_left
 ·show Act.put _ (some 43) _ = _
  simp only [Act.put, List.setIfInBounds_toArray, List.set_cons_zero, List.set_cons_succ, i64_w, i32_w]
  rfl
 refine one_ (i := 5) (N := some 48) #[true, true, true, true, true, true, true, true, true, true, false, false, false] rfl rfl (one_of HT_.out (by kernel_rfl)) (by decide) (fun K hK => ?_)
 refine Kd.R_append_rows_step (Kd.raw 2) (Rr := (Kd.raw 2).K _) (w0 := w3) w3.heap.size (by rfl) (.tmp 43) (.tmp 47) 24 62 (.agg #[(.int .i64 0), (.slice none 0 0)]) 32 rfl Try.underlying24 info62 rfl (by decide) (by omega) v43 [] (rb.drop tn) (some (ad.add (tn * 2))) _ _ (fun _ => True) (fun _ => False) (by rfl) (by rfl) HR43.out (raw_drop (Kd.C_below HBC.out (below_step HB.out HD.out)) (by omega)) (fun _ _ h => h) (fun _ h => h.elim) (fun _ _ => trivial) HD.out (below_size HD.out) (by simp only [List.length_nil]; omega) ?_
 intro v48 wB ho hb hg hat
 rw [List.nil_append] at ho
 have HR48 := Aside0.mk ho
 replace HD := Aside0.mk hb
 clear ho hb hg hat HR43
 refine hK.out _ _ ((blk_cell (blk_below (g := W.heap.size) (o := .cells #[.slice A0 lots.length c0, .slice A1 samples.length c1, .int .i64 spread, .slice (some ad) labs.length c3] 26 (0, 0)) B3.out HD.out) 3).trans rfl) (fun hHeld => ?_)
 clear hK K
 refine norm_ (a' := ?_) ?_ ?_
 rotate_left
 ·show Act.put _ (some 48) _ = _
  simp only [Act.put, List.setIfInBounds_toArray, List.set_cons_zero, List.set_cons_succ, i64_w, i32_w]
  rfl
 refine one_ (i := 10) (N := some 53) #[true, true, true, true, true, true, true, true, true, true, true, false, false] rfl rfl (one_of HT_.out (by kernel_rfl)) (by decide) (fun K hK => ?_)
 refine Kd.R_append_rows_step (Kd.raw 2) (Rr := (Kd.raw 2).K _) (w0 := w3) w3.heap.size (by rfl) (.tmp 48) (.tmp 52) 24 62 (.agg #[(.int .i64 0), (.slice none 0 0)]) 32 rfl Try.underlying24 info62 rfl (by decide) (by omega) v48 (rb.drop tn) (rb.take tn) (some ad) _ _ (fun _ => True) (fun _ => False) (by rfl) (by rfl) HR48.out (raw_take (Kd.C_below HBC.out (below_step HB.out HD.out)) (by omega)) (fun _ _ h => h) (fun _ h => h.elim) (fun _ _ => trivial) HD.out (below_size HD.out) (by rw [List.length_drop]; have := HBL.out; omega) ?_
 intro v53 wC ho hb hg hat
 obtain ⟨Ay, cy, ey⟩ := Kd.R_slice ho
 obtain rfl : v53 = .slice Ay L2.length cy := by rw [ey, ← HL2.out, rotL_length _ _ (by omega)]; have := rotL_length tn rb (by have := HBL.out; omega); unfold rotL at this; rw [this, HBL.out]
 have HR53 := Aside0.mk ho
 replace HD := Aside0.mk hb
 clear ho hb hg hat ey HR48
 refine hK.out _ _ ((blk_cell (blk_below (g := W.heap.size) (o := .cells #[.slice A0 lots.length c0, .slice A1 samples.length c1, .int .i64 spread, .slice (some ad) labs.length c3] 26 (0, 0)) B3.out HD.out) 3).trans rfl) (fun hHeld => ?_)
 clear hK K
 refine norm_ (a' := ?_) ?_ ?_
 rotate_left
 ·show Act.put _ (some 53) _ = _
  simp only [Act.put, List.setIfInBounds_toArray, List.set_cons_zero, List.set_cons_succ, i64_w, i32_w]
  rfl
 refine pure_ (i := 11) (N := some 54) (v := ?_) (a' := ?_) #[true, true, true, true, true, true, true, true, true, true, true, true, false] rfl rfl (any_of HT_.out (by kernel_rfl)) (fun _ _ _ h => h) (Or.inl ⟨by rfl, ?_⟩) ?_ ?_
 rotate_left
 ·intro w'
  go_simp
  with_reducible rfl
 rotate_left
 ·simp only [Act.put, List.setIfInBounds_toArray, List.set_cons_zero, List.set_cons_succ, i64_w, i32_w]
  rfl
 refine last_ (i := 12) (N := none) #[true, true, true, true, true, true, true, true, true, true, true, true, true] rfl rfl (one_of HT_.out (by kernel_rfl)) (by decide) (fun K hK => ?_)
 have hc8 := (blk_cell (blk_below (g := w1.heap.size) (o := .cells #[.slice A0 lots.length c0, .slice A1 samples.length c1, .int .i64 spread, .slice (some ad) labs.length c3] 26 (0, 0)) BX.out HD.out) 3).trans rfl
 have hf8 := blk_frozen (blk_below (g := w1.heap.size) (o := .cells #[.slice A0 lots.length c0, .slice A1 samples.length c1, .int .i64 spread, .slice (some ad) labs.length c3] 26 (0, 0)) BX.out HD.out) 3
 refine skip_ (w1 := ?_) (by rfl) rfl ?_ ?_
 rotate_left
 ·go_simp
  rfl
 refine hK.out _ _ ?_
 clear hK K
 refine done_ (done_of HT_.out (by kernel_rfl)) ?_
 clear hHeld hc8 hf8
 have hne : W.heap.size ≠ w1.heap.size := by omega
 have hBx : Below W.heap.size W (wC.setCell ⟨w1.heap.size, 3, none⟩ (.slice Ay L2.length cy)) := below_set (below_step HB.out HD.out) (by omega)
 have hXG := blk_below (g := w1.heap.size) (o := .cells #[.slice A0 lots.length c0, .slice A1 samples.length c1, .int .i64 spread, .slice (some ad) labs.length c3] 26 (0, 0)) BX.out HD.out
 have hX3 := blk_put (cs := #[.slice A0 lots.length c0, .slice A1 samples.length c1, .int .i64 spread, .slice (some ad) labs.length c3]) (cs' := #[.slice A0 lots.length c0, .slice A1 samples.length c1, .int .i64 spread, .slice Ay L2.length cy]) hXG 3 (.slice Ay L2.length cy) rfl
 have hB3 := blk_far (p := ⟨w1.heap.size, 3, none⟩) (blk_below (g := W.heap.size) (o := .cells #[.slice A0 lots.length c0, .slice A1 samples.length c1, .int .i64 spread, .slice (some ad) labs.length c3] 26 (0, 0)) B3.out HD.out) (by dsimp only; exact hne) (.slice Ay L2.length cy)
 obtain ⟨u1, u2, u3⟩ := Kd.R_reads' (Kd.R_far (p := ⟨w1.heap.size, 3, none⟩) (Kd.R_types HR53.out hXG (by decide)) (fun _ hk => hk.2) (.slice Ay L2.length cy))
 have hlen2 : (rotL tn rb).length = L2.length := by rw [← HL2.out, rotL_length _ _ (by have := HBL.out; omega), rotL_length _ _ (by omega)]; exact HBL.out
 have hrs := rot_rows (w := wC.setCell ⟨w1.heap.size, 3, none⟩ (.slice Ay L2.length cy)) htn HBL.out (fun j p hp => by obtain ⟨c, hc, hk⟩ := HBK.out j p hp; exact ⟨c, hc, k62.K_below hBx hk⟩)
 rw [HL2.out] at hrs
 have hC2 : Kd.C k62 (wC.setCell ⟨w1.heap.size, 3, none⟩ (.slice Ay L2.length cy)) Ay L2.length L2 := C_raw (d := k62) (rows := rotL tn rb) hlen2 u3 hrs
 have HX : Aside0 (In26 (wC.setCell ⟨w1.heap.size, 3, none⟩ (.slice Ay L2.length cy)) (.agg #[.slice A0 lots.length c0, .slice A1 samples.length c1, .int .i64 spread, .slice Ay L2.length cy]) A0 c0 lots A1 c1 samples spread Ay cy L2) := ⟨⟨rfl, Kd.C_below HI.out.r0 hBx, HI.out.h0, Kd.C_below HI.out.r1 hBx, HI.out.h1, hC2, u2, HI.out.a, HI.out.b, by have := HThX.out.c; omega, fun x hx => by have := HThX.out.d x hx; omega⟩⟩
 replace BX := Aside0.mk hX3
 replace B3 := Aside0.mk hB3
 replace HB := Aside0.mk hBx
 obtain ⟨gx, hgx⟩ : ∃ g, w1.heap.size = g := ⟨_, rfl⟩
 rw [hgx] at BX B3 HB HX lt_1 ⊢
 clear hne hBx hXG hX3 hB3 u1 u2 u3 hlen2 hrs hC2 HR53 HD t0 t1 t2 t3 t4 t5 hgx e1
 generalize World.setCell wC ⟨gx, 3, none⟩ (.slice Ay L2.length cy) = w4 at BX B3 HB HX ⊢
 have HTt := Aside0.mk ht
 clear ht
 go_wp2
 go_loop [10, 11] (fun q10 q11 => ∃ k : Nat, k ≤ labs.length ∧ q11 = .int .i64 (k : Int) ∧ q10 = .int .u8 (othF labs.length tn bits k)) (fun _ q11 => labs.length - (intOf q11).toNat)
 case atStart => exact ⟨0, Nat.zero_le _, rfl, rfl⟩
 case round =>
  obtain ⟨k, hk, rfl, rfl⟩ := hrel
  by_cases hlt : k < labs.length
  ·have hk2 : IntKind.u64.wrap (k : Int) = (k : Int) := IntWalk.u64_in _ (by omega)
   have hbb : Int.tmod (bits / 2 ^ k) 2 = 1 ↔ bitB bits (k : Int) = true := by
    unfold bitB
    rw [hk2, decide_eq_true_eq]
    unfold shr
    rw [Int.toNat_natCast, Nat.min_eq_left (by simp [IntKind.bits]; omega)]
   obtain ⟨sh, hsh⟩ : ∃ sh, bits / 2 ^ k = sh := ⟨_, rfl⟩
   rw [hsh] at hbb
   have HO := Aside0.mk (othF_succ labs.length tn bits k)
   obtain ⟨ob, hob⟩ : ∃ ob, othF labs.length tn bits k = ob := ⟨_, rfl⟩
   rw [hob] at HO ⊢
   clear hob
   generalize bitB bits (k : Int) = bb at hbb HO
   have hs : (Int.tmod sh 2 == 1) = bb := by rw [Bool.eq_iff_iff, beq_iff_eq]; exact hbb
   have e2 : IntKind.i64.wrap ((k : Int) + (labs.length : Int)) = (k : Int) + (labs.length : Int) := IntWalk.i64_in _ (by omega)
   have e3 : IntKind.i64.wrap ((k : Int) + (labs.length : Int) - (tn : Int)) = (k : Int) + (labs.length : Int) - (tn : Int) := IntWalk.i64_in _ (by omega)
   clear hbb
   cases bb with
   | true =>
    go_wp2
    go_round
    case rel => exact ⟨k + 1, by omega, by go_num, by rw [HO.out, sh_eq _ _ _ h6 htn hlt]; rfl⟩
    case measure => simp [intOf]; omega
   | false =>
    go_wp2
    go_round
    case rel => exact ⟨k + 1, by omega, by go_num, by rw [HO.out]; rfl⟩
    case measure => simp [intOf]; omega
  ·obtain rfl : k = labs.length := by omega
   obtain ⟨oth, hoth⟩ : ∃ x, othF labs.length tn bits labs.length = x := ⟨_, rfl⟩
   rw [hoth]
   have HOfX := Aside0.mk (show chosenF labs.length oth = offX by rw [← hoth]; exact HOfX9.out)
   clear hoth hlt hk
   go_upto_region 13 with fail
   refine start_ (n := 11) (S := fun w' => w'.cell? ⟨W.heap.size, 0, none⟩ = some (.slice A0 lots.length c0) ∧ w'.cell? ⟨W.heap.size, 1, none⟩ = some (.slice A1 samples.length c1) ∧ w'.cell? ⟨W.heap.size, 2, none⟩ = some (.int .i64 spread) ∧ w'.cell? ⟨W.heap.size, 3, none⟩ = some (.slice (some ad) labs.length c3)) (ds := []) #[false, false, false, false, false, false, false, false, false, false, false] (by kernel_rfl) rfl rfl ⟨(blk_cell (blk_drew B3.out) 0).trans rfl, (blk_cell (blk_drew B3.out) 1).trans rfl, (blk_cell (blk_drew B3.out) 2).trans rfl, (blk_cell (blk_drew B3.out) 3).trans rfl⟩ (fun hHeld => ?_)
   refine with_tabW od.tab13 od.bits13 (fun HT_ HW_ => ?_)
   replace B3 := Aside0.mk (blk_drew B3.out)
   replace BX := Aside0.mk (blk_drew BX.out)
   replace HB := Aside0.mk (below_drew1 HB.out)
   replace HX := Aside0.mk (HX.out.below (below_drew1 (Below.refl _ _)))
   generalize w4.drew = w13 at B3 BX HB HX hHeld ⊢
   refine pure_ (i := 3) (N := some 81) (v := ?_) (a' := ?_) #[false, false, false, true, false, false, false, false, false, false, false] rfl rfl (any_of HT_.out (by kernel_rfl)) (fun _ _ _ h => h) (Or.inl ⟨by rfl, ?_⟩) ?_ ?_
   rotate_left
   ·intro w'
    go_simp
    with_reducible rfl
   rotate_left
   ·simp only [Act.put, List.setIfInBounds_toArray, List.set_cons_zero, List.set_cons_succ, i64_w, i32_w]
    rfl
   refine take_ (i := 0) (N := some 78) (v := ?_) (a' := ?_) #[true, false, false, true, false, false, false, false, false, false, false] rfl rfl (take_ofW HT_.out HW_.out (by kernel_rfl)) (fun _ _ _ h => h) (Or.inl ⟨by rfl, ?_⟩) hHeld ?_ ?_
   rotate_left
   ·rintro w' ⟨s0, s1, s2, s3⟩
    go_simp
    with_reducible rfl
   rotate_left
   ·simp only [Act.put, List.setIfInBounds_toArray, List.set_cons_zero, List.set_cons_succ, i64_w, i32_w]
    rfl
   refine take_ (i := 2) (N := some 80) (v := ?_) (a' := ?_) #[true, false, true, true, false, false, false, false, false, false, false] rfl rfl (take_ofW HT_.out HW_.out (by kernel_rfl)) (fun _ _ _ h => h) (Or.inl ⟨by rfl, ?_⟩) hHeld ?_ ?_
   rotate_left
   ·rintro w' ⟨s0, s1, s2, s3⟩
    go_simp
    with_reducible rfl
   rotate_left
   ·simp only [Act.put, List.setIfInBounds_toArray, List.set_cons_zero, List.set_cons_succ, i64_w, i32_w]
    rfl
   refine one_ (i := 1) (N := some 79) #[true, true, true, true, false, false, false, false, false, false, false] rfl rfl (one_of HT_.out (by kernel_rfl)) (by decide) (fun K hK => ?_)
   refine goes_ Try.func20 (by kernel_rfl) rfl #[.agg #[.slice A0 lots.length c0, .slice A1 samples.length c1, .int .i64 spread, .slice (some ad) labs.length c3]] (by rfl) rfl rfl (by simp only [List.map_toArray, List.map_cons, List.map_nil]; rfl) ?_
   with_reducible refine (round_at (HI.out.below HB.out) HTh.out).mono ?_
   rintro e w14 ⟨u, rfl, hu, hb⟩
   refine ⟨_, rfl, ?_⟩
   replace HB := Aside0.mk (below_step HB.out hb)
   replace B3 := Aside0.mk (blk_below (g := W.heap.size) (o := .cells #[.slice A0 lots.length c0, .slice A1 samples.length c1, .int .i64 spread, .slice (some ad) labs.length c3] 26 (0, 0)) B3.out hb)
   replace BX := Aside0.mk (blk_below (g := gx) (o := .cells #[.slice A0 lots.length c0, .slice A1 samples.length c1, .int .i64 spread, .slice Ay L2.length cy] 26 (0, 0)) BX.out hb)
   replace HX := Aside0.mk (HX.out.below hb)
   have HU := Aside0.mk hu
   clear hu hb
   refine hK.out _ _ ⟨(blk_cell B3.out 0).trans rfl, (blk_cell B3.out 1).trans rfl, (blk_cell B3.out 2).trans rfl, (blk_cell B3.out 3).trans rfl⟩ (fun hHeld => ?_)
   clear hK K
   refine norm_ (a' := ?_) ?_ ?_
   rotate_left
   ·show Act.put _ (some 79) _ = _
    simp only [Act.put, List.setIfInBounds_toArray, List.set_cons_zero, List.set_cons_succ, i64_w, i32_w]
    rfl
   refine one_ (i := 4) (N := some 82) #[true, true, true, true, true, false, false, false, false, false, false] rfl rfl (one_of HT_.out (by kernel_rfl)) (by decide) (fun K hK => ?_)
   refine goes_ Try.func36 (by kernel_rfl) rfl #[.agg #[.slice A0 lots.length c0, .slice A1 samples.length c1, .int .i64 spread, .slice (some ad) labs.length c3], .int .u8 bits] (by rfl) rfl rfl (by simp only [List.map_toArray, List.map_cons, List.map_nil]; rfl) ?_
   with_reducible refine (chosen_at (HI.out.below HB.out) h6 bits).mono ?_
   rintro e w15 ⟨_, rfl, hOff, hb⟩
   refine ⟨_, rfl, ?_⟩
   rw [HOf.out] at hOff
   obtain ⟨Ao, co, rfl, hco, hOff⟩ := hOff
   replace HB := Aside0.mk (below_step HB.out hb)
   replace B3 := Aside0.mk (blk_below (g := W.heap.size) (o := .cells #[.slice A0 lots.length c0, .slice A1 samples.length c1, .int .i64 spread, .slice (some ad) labs.length c3] 26 (0, 0)) B3.out hb)
   replace BX := Aside0.mk (blk_below (g := gx) (o := .cells #[.slice A0 lots.length c0, .slice A1 samples.length c1, .int .i64 spread, .slice Ay L2.length cy] 26 (0, 0)) BX.out hb)
   replace HX := Aside0.mk (HX.out.below hb)
   replace HU := Aside0.mk (HU.out.below hb)
   have HOff := Aside0.mk hOff
   clear hb hOff
   refine hK.out _ _ ⟨(blk_cell B3.out 0).trans rfl, (blk_cell B3.out 1).trans rfl, (blk_cell B3.out 2).trans rfl, (blk_cell B3.out 3).trans rfl⟩ (fun hHeld => ?_)
   clear hK K
   refine norm_ (a' := ?_) ?_ ?_
   rotate_left
   ·show Act.put _ (some 82) _ = _
    simp only [Act.put, List.setIfInBounds_toArray, List.set_cons_zero, List.set_cons_succ, i64_w, i32_w]
    rfl
   refine one_ (i := 5) (N := some 83) #[true, true, true, true, true, true, false, false, false, false, false] rfl rfl (one_of HT_.out (by kernel_rfl)) (by decide) (fun K hK => ?_)
   refine goes_ Try.func21 (by kernel_rfl) rfl #[u, .slice Ao (off).length co] (by rfl) rfl rfl (by simp only [List.map_toArray, List.map_cons, List.map_nil]; rfl) ?_
   with_reducible refine (explains_to HU.out (inL_mk5 hco HOff.out) hln HE1.out).mono ?_
   rintro e w16 ⟨rfl, hb⟩
   refine ⟨_, rfl, ?_⟩
   replace HB := Aside0.mk (below_step HB.out hb)
   replace B3 := Aside0.mk (blk_below (g := W.heap.size) (o := .cells #[.slice A0 lots.length c0, .slice A1 samples.length c1, .int .i64 spread, .slice (some ad) labs.length c3] 26 (0, 0)) B3.out hb)
   replace BX := Aside0.mk (blk_below (g := gx) (o := .cells #[.slice A0 lots.length c0, .slice A1 samples.length c1, .int .i64 spread, .slice Ay L2.length cy] 26 (0, 0)) BX.out hb)
   replace HX := Aside0.mk (HX.out.below hb)
   clear HU HOff hb hco
   refine hK.out _ _ ⟨(blk_cell B3.out 0).trans rfl, (blk_cell B3.out 1).trans rfl, (blk_cell B3.out 2).trans rfl, (blk_cell B3.out 3).trans rfl⟩ (fun hHeld => ?_)
   clear hK K
   refine norm_ (a' := ?_) ?_ ?_
   rotate_left
   ·show Act.put _ (some 83) _ = _
    simp only [Act.put, List.setIfInBounds_toArray, List.set_cons_zero, List.set_cons_succ, i64_w, i32_w]
    rfl
   refine pure_ (i := 6) (N := some 77) (v := ?_) (a' := ?_) #[true, true, true, true, true, true, true, false, false, false, false] rfl rfl (any_of HT_.out (by kernel_rfl)) (fun _ _ _ h => h) (Or.inl ⟨by rfl, ?_⟩) ?_ ?_
   rotate_left
   ·intro w'
    go_simp
    with_reducible rfl
   rotate_left
   ·simp only [Act.put, List.setIfInBounds_toArray, List.set_cons_zero, List.set_cons_succ, i64_w, i32_w]
    rfl
   refine pure_ (i := 7) (N := some 84) (v := ?_) (a' := ?_) #[true, true, true, true, true, true, true, true, false, false, false] rfl rfl (any_of HT_.out (by kernel_rfl)) (fun _ _ _ h => h) (Or.inl ⟨by rfl, ?_⟩) ?_ ?_
   rotate_left
   ·intro w'
    go_simp
    with_reducible rfl
   rotate_left
   ·simp only [Act.put, List.setIfInBounds_toArray, List.set_cons_zero, List.set_cons_succ, i64_w, i32_w]
    rfl
   refine pure_ (i := 8) (N := some 85) (v := ?_) (a' := ?_) #[true, true, true, true, true, true, true, true, true, false, false] rfl rfl (any_of HT_.out (by kernel_rfl)) (fun _ _ _ h => h) (Or.inl ⟨by rfl, ?_⟩) ?_ ?_
   rotate_left
   ·intro w'
    go_simp
    with_reducible rfl
   rotate_left
   ·simp only [Act.put, List.setIfInBounds_toArray, List.set_cons_zero, List.set_cons_succ, i64_w, i32_w]
    rfl
   refine pure_ (i := 9) (N := some 12) (v := ?_) (a' := ?_) #[true, true, true, true, true, true, true, true, true, true, false] rfl rfl (any_of HT_.out (by kernel_rfl)) (fun _ _ _ h => h) (Or.inl ⟨by rfl, ?_⟩) ?_ ?_
   rotate_left
   ·intro w'
    go_simp
    with_reducible rfl
   rotate_left
   ·simp only [Act.put, List.setIfInBounds_toArray, List.set_cons_zero, List.set_cons_succ, i64_w, i32_w]
    rfl
   refine pure_ (i := 10) (N := some 13) (v := ?_) (a' := ?_) #[true, true, true, true, true, true, true, true, true, true, true] rfl rfl (any_of HT_.out (by kernel_rfl)) (fun _ _ _ h => h) (Or.inl ⟨by rfl, ?_⟩) ?_ ?_
   rotate_left
   ·intro w'
    go_simp
    with_reducible rfl
   rotate_left
   ·simp only [Act.put, List.setIfInBounds_toArray, List.set_cons_zero, List.set_cons_succ, i64_w, i32_w]
    rfl
   refine done_ (done_of HT_.out (by kernel_rfl)) ?_
   go_upto_region 14 with fail
   refine start_ (n := 11) (S := fun w' => w'.cell? ⟨W.heap.size, 0, none⟩ = some (.slice A0 lots.length c0) ∧ w'.cell? ⟨W.heap.size, 1, none⟩ = some (.slice A1 samples.length c1) ∧ w'.cell? ⟨W.heap.size, 2, none⟩ = some (.int .i64 spread) ∧ w'.cell? ⟨W.heap.size, 3, none⟩ = some (.slice (some ad) labs.length c3) ∧ w'.cell? ⟨gx, 0, none⟩ = some (.slice A0 lots.length c0) ∧ w'.cell? ⟨gx, 1, none⟩ = some (.slice A1 samples.length c1) ∧ w'.cell? ⟨gx, 2, none⟩ = some (.int .i64 spread) ∧ w'.cell? ⟨gx, 3, none⟩ = some (.slice Ay L2.length cy)) (ds := []) #[false, false, false, false, false, false, false, false, false, false, false] (by kernel_rfl) rfl rfl ⟨(blk_cell (blk_drew B3.out) 0).trans rfl, (blk_cell (blk_drew B3.out) 1).trans rfl, (blk_cell (blk_drew B3.out) 2).trans rfl, (blk_cell (blk_drew B3.out) 3).trans rfl, (blk_cell (blk_drew BX.out) 0).trans rfl, (blk_cell (blk_drew BX.out) 1).trans rfl, (blk_cell (blk_drew BX.out) 2).trans rfl, (blk_cell (blk_drew BX.out) 3).trans rfl⟩ (fun hHeld => ?_)
   refine with_tabW od.tab14 od.bits14 (fun HT_ HW_ => ?_)
   replace B3 := Aside0.mk (blk_drew B3.out)
   replace BX := Aside0.mk (blk_drew BX.out)
   replace HB := Aside0.mk (below_drew1 HB.out)
   replace HX := Aside0.mk (HX.out.below (below_drew1 (Below.refl _ _)))
   generalize w16.drew = w17 at B3 BX HB HX hHeld ⊢
   refine pure_ (i := 3) (N := some 90) (v := ?_) (a' := ?_) #[false, false, false, true, false, false, false, false, false, false, false] rfl rfl (any_of HT_.out (by kernel_rfl)) (fun _ _ _ h => h) (Or.inl ⟨by rfl, ?_⟩) ?_ ?_
   rotate_left
   ·intro w'
    go_simp
    with_reducible rfl
   rotate_left
   ·simp only [Act.put, List.setIfInBounds_toArray, List.set_cons_zero, List.set_cons_succ, i64_w, i32_w]
    rfl
   refine take_ (i := 0) (N := some 87) (v := ?_) (a' := ?_) #[true, false, false, true, false, false, false, false, false, false, false] rfl rfl (take_ofW HT_.out HW_.out (by kernel_rfl)) (fun _ _ _ h => h) (Or.inl ⟨by rfl, ?_⟩) hHeld ?_ ?_
   rotate_left
   ·rintro w' ⟨s0, s1, s2, s3, s4, s5, s6, s7⟩
    go_simp
    with_reducible rfl
   rotate_left
   ·simp only [Act.put, List.setIfInBounds_toArray, List.set_cons_zero, List.set_cons_succ, i64_w, i32_w]
    rfl
   refine take_ (i := 2) (N := some 89) (v := ?_) (a' := ?_) #[true, false, true, true, false, false, false, false, false, false, false] rfl rfl (take_ofW HT_.out HW_.out (by kernel_rfl)) (fun _ _ _ h => h) (Or.inl ⟨by rfl, ?_⟩) hHeld ?_ ?_
   rotate_left
   ·rintro w' ⟨s0, s1, s2, s3, s4, s5, s6, s7⟩
    go_simp
    with_reducible rfl
   rotate_left
   ·simp only [Act.put, List.setIfInBounds_toArray, List.set_cons_zero, List.set_cons_succ, i64_w, i32_w]
    rfl
   refine one_ (i := 1) (N := some 88) #[true, true, true, true, false, false, false, false, false, false, false] rfl rfl (one_of HT_.out (by kernel_rfl)) (by decide) (fun K hK => ?_)
   refine goes_ Try.func20 (by kernel_rfl) rfl #[.agg #[.slice A0 lots.length c0, .slice A1 samples.length c1, .int .i64 spread, .slice Ay L2.length cy]] (by rfl) rfl rfl (by simp only [List.map_toArray, List.map_cons, List.map_nil]; rfl) ?_
   with_reducible refine (round_at HX.out HThX.out).mono ?_
   rintro e w18 ⟨u, rfl, hu, hb⟩
   refine ⟨_, rfl, ?_⟩
   replace HB := Aside0.mk (below_step HB.out hb)
   replace B3 := Aside0.mk (blk_below (g := W.heap.size) (o := .cells #[.slice A0 lots.length c0, .slice A1 samples.length c1, .int .i64 spread, .slice (some ad) labs.length c3] 26 (0, 0)) B3.out hb)
   replace BX := Aside0.mk (blk_below (g := gx) (o := .cells #[.slice A0 lots.length c0, .slice A1 samples.length c1, .int .i64 spread, .slice Ay L2.length cy] 26 (0, 0)) BX.out hb)
   replace HX := Aside0.mk (HX.out.below hb)
   have HU := Aside0.mk hu
   clear hu hb
   refine hK.out _ _ ⟨(blk_cell B3.out 0).trans rfl, (blk_cell B3.out 1).trans rfl, (blk_cell B3.out 2).trans rfl, (blk_cell B3.out 3).trans rfl, (blk_cell BX.out 0).trans rfl, (blk_cell BX.out 1).trans rfl, (blk_cell BX.out 2).trans rfl, (blk_cell BX.out 3).trans rfl⟩ (fun hHeld => ?_)
   clear hK K
   refine norm_ (a' := ?_) ?_ ?_
   rotate_left
   ·show Act.put _ (some 88) _ = _
    simp only [Act.put, List.setIfInBounds_toArray, List.set_cons_zero, List.set_cons_succ, i64_w, i32_w]
    rfl
   refine one_ (i := 4) (N := some 91) #[true, true, true, true, true, false, false, false, false, false, false] rfl rfl (one_of HT_.out (by kernel_rfl)) (by decide) (fun K hK => ?_)
   refine goes_ Try.func36 (by kernel_rfl) rfl #[.agg #[.slice A0 lots.length c0, .slice A1 samples.length c1, .int .i64 spread, .slice (some ad) labs.length c3], .int .u8 oth] (by rfl) rfl rfl (by simp only [List.map_toArray, List.map_cons, List.map_nil]; rfl) ?_
   with_reducible refine (chosen_at (HI.out.below HB.out) h6 oth).mono ?_
   rintro e w19 ⟨_, rfl, hOff, hb⟩
   refine ⟨_, rfl, ?_⟩
   rw [HOfX.out] at hOff
   obtain ⟨Ao, co, rfl, hco, hOff⟩ := hOff
   replace HB := Aside0.mk (below_step HB.out hb)
   replace B3 := Aside0.mk (blk_below (g := W.heap.size) (o := .cells #[.slice A0 lots.length c0, .slice A1 samples.length c1, .int .i64 spread, .slice (some ad) labs.length c3] 26 (0, 0)) B3.out hb)
   replace BX := Aside0.mk (blk_below (g := gx) (o := .cells #[.slice A0 lots.length c0, .slice A1 samples.length c1, .int .i64 spread, .slice Ay L2.length cy] 26 (0, 0)) BX.out hb)
   replace HX := Aside0.mk (HX.out.below hb)
   replace HU := Aside0.mk (HU.out.below hb)
   have HOff := Aside0.mk hOff
   clear hb hOff
   refine hK.out _ _ ⟨(blk_cell B3.out 0).trans rfl, (blk_cell B3.out 1).trans rfl, (blk_cell B3.out 2).trans rfl, (blk_cell B3.out 3).trans rfl, (blk_cell BX.out 0).trans rfl, (blk_cell BX.out 1).trans rfl, (blk_cell BX.out 2).trans rfl, (blk_cell BX.out 3).trans rfl⟩ (fun hHeld => ?_)
   clear hK K
   refine norm_ (a' := ?_) ?_ ?_
   rotate_left
   ·show Act.put _ (some 91) _ = _
    simp only [Act.put, List.setIfInBounds_toArray, List.set_cons_zero, List.set_cons_succ, i64_w, i32_w]
    rfl
   refine one_ (i := 5) (N := some 92) #[true, true, true, true, true, true, false, false, false, false, false] rfl rfl (one_of HT_.out (by kernel_rfl)) (by decide) (fun K hK => ?_)
   refine goes_ Try.func21 (by kernel_rfl) rfl #[u, .slice Ao (offX).length co] (by rfl) rfl rfl (by simp only [List.map_toArray, List.map_cons, List.map_nil]; rfl) ?_
   with_reducible refine (explains_to HU.out (inL_mk5 hco HOff.out) hlnX HE2.out).mono ?_
   rintro e w20 ⟨rfl, hb⟩
   refine ⟨_, rfl, ?_⟩
   replace HB := Aside0.mk (below_step HB.out hb)
   replace B3 := Aside0.mk (blk_below (g := W.heap.size) (o := .cells #[.slice A0 lots.length c0, .slice A1 samples.length c1, .int .i64 spread, .slice (some ad) labs.length c3] 26 (0, 0)) B3.out hb)
   replace BX := Aside0.mk (blk_below (g := gx) (o := .cells #[.slice A0 lots.length c0, .slice A1 samples.length c1, .int .i64 spread, .slice Ay L2.length cy] 26 (0, 0)) BX.out hb)
   replace HX := Aside0.mk (HX.out.below hb)
   clear HU HOff hb hco
   refine hK.out _ _ ⟨(blk_cell B3.out 0).trans rfl, (blk_cell B3.out 1).trans rfl, (blk_cell B3.out 2).trans rfl, (blk_cell B3.out 3).trans rfl, (blk_cell BX.out 0).trans rfl, (blk_cell BX.out 1).trans rfl, (blk_cell BX.out 2).trans rfl, (blk_cell BX.out 3).trans rfl⟩ (fun hHeld => ?_)
   clear hK K
   refine norm_ (a' := ?_) ?_ ?_
   rotate_left
   ·show Act.put _ (some 92) _ = _
    simp only [Act.put, List.setIfInBounds_toArray, List.set_cons_zero, List.set_cons_succ, i64_w, i32_w]
    rfl
   refine pure_ (i := 6) (N := some 86) (v := ?_) (a' := ?_) #[true, true, true, true, true, true, true, false, false, false, false] rfl rfl (any_of HT_.out (by kernel_rfl)) (fun _ _ _ h => h) (Or.inl ⟨by rfl, ?_⟩) ?_ ?_
   rotate_left
   ·intro w'
    go_simp
    with_reducible rfl
   rotate_left
   ·simp only [Act.put, List.setIfInBounds_toArray, List.set_cons_zero, List.set_cons_succ, i64_w, i32_w]
    rfl
   refine pure_ (i := 7) (N := some 93) (v := ?_) (a' := ?_) #[true, true, true, true, true, true, true, true, false, false, false] rfl rfl (any_of HT_.out (by kernel_rfl)) (fun _ _ _ h => h) (Or.inl ⟨by rfl, ?_⟩) ?_ ?_
   rotate_left
   ·intro w'
    go_simp
    with_reducible rfl
   rotate_left
   ·simp only [Act.put, List.setIfInBounds_toArray, List.set_cons_zero, List.set_cons_succ, i64_w, i32_w]
    rfl
   refine pure_ (i := 8) (N := some 94) (v := ?_) (a' := ?_) #[true, true, true, true, true, true, true, true, true, false, false] rfl rfl (any_of HT_.out (by kernel_rfl)) (fun _ _ _ h => h) (Or.inl ⟨by rfl, ?_⟩) ?_ ?_
   rotate_left
   ·intro w'
    go_simp
    with_reducible rfl
   rotate_left
   ·simp only [Act.put, List.setIfInBounds_toArray, List.set_cons_zero, List.set_cons_succ, i64_w, i32_w]
    rfl
   refine pure_ (i := 9) (N := some 14) (v := ?_) (a' := ?_) #[true, true, true, true, true, true, true, true, true, true, false] rfl rfl (any_of HT_.out (by kernel_rfl)) (fun _ _ _ h => h) (Or.inl ⟨by rfl, ?_⟩) ?_ ?_
   rotate_left
   ·intro w'
    go_simp
    with_reducible rfl
   rotate_left
   ·simp only [Act.put, List.setIfInBounds_toArray, List.set_cons_zero, List.set_cons_succ, i64_w, i32_w]
    rfl
   refine pure_ (i := 10) (N := some 15) (v := ?_) (a' := ?_) #[true, true, true, true, true, true, true, true, true, true, true] rfl rfl (any_of HT_.out (by kernel_rfl)) (fun _ _ _ h => h) (Or.inl ⟨by rfl, ?_⟩) ?_ ?_
   rotate_left
   ·intro w'
    go_simp
    with_reducible rfl
   rotate_left
   ·simp only [Act.put, List.setIfInBounds_toArray, List.set_cons_zero, List.set_cons_succ, i64_w, i32_w]
    rfl
   refine done_ (done_of HT_.out (by kernel_rfl)) ?_
   obtain ⟨p0, p1, p2, p3⟩ := cells4 B3.out
   obtain ⟨x0, x1, x2, x3⟩ := cells4 BX.out
   have lt_B3 := blk_lt B3.out
   have lt_BX := blk_lt BX.out
   have f1 : ((cl.length : Int) != (cm.length : Int)) = false := bne_eq_false_iff_eq.2 (by omega)
   go_wp2_with (first | (go_at_call 20; (with_reducible refine (round_at (HI.out.below (by repeat (first | (with_reducible exact HB.out) | apply below_alloc | apply pw_below_drewN | apply below_drew1 | refine below_set ?_ (by omega)))) HTh.out).mono ?_); rintro e w22 ⟨u, rfl, hu, hb⟩; replace HB := Aside0.mk (below_step (by repeat (first | (with_reducible exact HB.out) | apply below_alloc | apply pw_below_drewN | apply below_drew1 | refine below_set ?_ (by omega))) hb); replace B3 := Aside0.mk (blk_below (g := W.heap.size) (o := .cells #[.slice A0 lots.length c0, .slice A1 samples.length c1, .int .i64 spread, .slice (some ad) labs.length c3] 26 (0, 0)) (by (with_reducible repeat (first | exact B3.out | refine blk_drewN ?_ _ | refine blk_drew ?_ | refine blk_alloc ?_ _))) hb); replace BX := Aside0.mk (blk_below (g := gx) (o := .cells #[.slice A0 lots.length c0, .slice A1 samples.length c1, .int .i64 spread, .slice Ay L2.length cy] 26 (0, 0)) (by (with_reducible repeat (first | exact BX.out | refine blk_drewN ?_ _ | refine blk_drew ?_ | refine blk_alloc ?_ _))) hb); replace HX := Aside0.mk (HX.out.below (below_step (by repeat (first | (with_reducible exact Below.refl _ _) | apply below_alloc | apply pw_below_drewN | apply below_drew1)) hb)); (try replace HCl := Aside0.mk (Kd.C_below HCl.out (below_step (by repeat (first | (with_reducible exact Below.refl _ _) | apply below_alloc | apply pw_below_drewN | apply below_drew1)) hb))); (try replace HCm := Aside0.mk (Kd.C_below HCm.out (below_step (by repeat (first | (with_reducible exact Below.refl _ _) | apply below_alloc | apply pw_below_drewN | apply below_drew1)) hb))); (try replace HU := Aside0.mk (HU.out.below (below_step (by repeat (first | (with_reducible exact Below.refl _ _) | apply below_alloc | apply pw_below_drewN | apply below_drew1)) hb))); clear hb; have HU := Aside0.mk hu; clear hu; (try clear p0 p1 p2 p3); (try clear lt_B3); have lt_B3 := blk_lt B3.out; obtain ⟨p0, p1, p2, p3⟩ := cells4 B3.out; (try clear x0 x1 x2 x3); (try clear lt_BX); have lt_BX := blk_lt BX.out; obtain ⟨x0, x1, x2, x3⟩ := cells4 BX.out) | (go_at_call 20; (with_reducible refine (round_at (HX.out.below (by repeat (first | (with_reducible exact Below.refl _ _) | apply below_alloc | apply pw_below_drewN | apply below_drew1))) HThX.out).mono ?_); rintro e w22 ⟨u, rfl, hu, hb⟩; replace HB := Aside0.mk (below_step (by repeat (first | (with_reducible exact HB.out) | apply below_alloc | apply pw_below_drewN | apply below_drew1 | refine below_set ?_ (by omega))) hb); replace B3 := Aside0.mk (blk_below (g := W.heap.size) (o := .cells #[.slice A0 lots.length c0, .slice A1 samples.length c1, .int .i64 spread, .slice (some ad) labs.length c3] 26 (0, 0)) (by (with_reducible repeat (first | exact B3.out | refine blk_drewN ?_ _ | refine blk_drew ?_ | refine blk_alloc ?_ _))) hb); replace BX := Aside0.mk (blk_below (g := gx) (o := .cells #[.slice A0 lots.length c0, .slice A1 samples.length c1, .int .i64 spread, .slice Ay L2.length cy] 26 (0, 0)) (by (with_reducible repeat (first | exact BX.out | refine blk_drewN ?_ _ | refine blk_drew ?_ | refine blk_alloc ?_ _))) hb); replace HX := Aside0.mk (HX.out.below (below_step (by repeat (first | (with_reducible exact Below.refl _ _) | apply below_alloc | apply pw_below_drewN | apply below_drew1)) hb)); (try replace HCl := Aside0.mk (Kd.C_below HCl.out (below_step (by repeat (first | (with_reducible exact Below.refl _ _) | apply below_alloc | apply pw_below_drewN | apply below_drew1)) hb))); (try replace HCm := Aside0.mk (Kd.C_below HCm.out (below_step (by repeat (first | (with_reducible exact Below.refl _ _) | apply below_alloc | apply pw_below_drewN | apply below_drew1)) hb))); (try replace HU := Aside0.mk (HU.out.below (below_step (by repeat (first | (with_reducible exact Below.refl _ _) | apply below_alloc | apply pw_below_drewN | apply below_drew1)) hb))); clear hb; have HU := Aside0.mk hu; clear hu; (try clear p0 p1 p2 p3); (try clear lt_B3); have lt_B3 := blk_lt B3.out; obtain ⟨p0, p1, p2, p3⟩ := cells4 B3.out; (try clear x0 x1 x2 x3); (try clear lt_BX); have lt_BX := blk_lt BX.out; obtain ⟨x0, x1, x2, x3⟩ := cells4 BX.out) | (go_at_call 38; (with_reducible refine (convicted_at (HU.out.below (by repeat (first | (with_reducible exact Below.refl _ _) | apply below_alloc | apply pw_below_drewN | apply below_drew1)))).mono ?_); first | (rw [HC1.out]; rintro e w23 ⟨_, rfl, ⟨Ac, cc_, rfl, hcc, hCv⟩, hb⟩; clear HU; replace HB := Aside0.mk (below_step (by repeat (first | (with_reducible exact HB.out) | apply below_alloc | apply pw_below_drewN | apply below_drew1 | refine below_set ?_ (by omega))) hb); replace B3 := Aside0.mk (blk_below (g := W.heap.size) (o := .cells #[.slice A0 lots.length c0, .slice A1 samples.length c1, .int .i64 spread, .slice (some ad) labs.length c3] 26 (0, 0)) (by (with_reducible repeat (first | exact B3.out | refine blk_drewN ?_ _ | refine blk_drew ?_ | refine blk_alloc ?_ _))) hb); replace BX := Aside0.mk (blk_below (g := gx) (o := .cells #[.slice A0 lots.length c0, .slice A1 samples.length c1, .int .i64 spread, .slice Ay L2.length cy] 26 (0, 0)) (by (with_reducible repeat (first | exact BX.out | refine blk_drewN ?_ _ | refine blk_drew ?_ | refine blk_alloc ?_ _))) hb); replace HX := Aside0.mk (HX.out.below (below_step (by repeat (first | (with_reducible exact Below.refl _ _) | apply below_alloc | apply pw_below_drewN | apply below_drew1)) hb)); (try replace HCl := Aside0.mk (Kd.C_below HCl.out (below_step (by repeat (first | (with_reducible exact Below.refl _ _) | apply below_alloc | apply pw_below_drewN | apply below_drew1)) hb))); (try replace HCm := Aside0.mk (Kd.C_below HCm.out (below_step (by repeat (first | (with_reducible exact Below.refl _ _) | apply below_alloc | apply pw_below_drewN | apply below_drew1)) hb))); clear hb; have HCl := Aside0.mk hCv; clear hCv; (try clear p0 p1 p2 p3); (try clear lt_B3); have lt_B3 := blk_lt B3.out; obtain ⟨p0, p1, p2, p3⟩ := cells4 B3.out; (try clear x0 x1 x2 x3); (try clear lt_BX); have lt_BX := blk_lt BX.out; obtain ⟨x0, x1, x2, x3⟩ := cells4 BX.out) | (rw [HC2.out]; rintro e w24 ⟨_, rfl, ⟨Am, cm_, rfl, hcm, hCv⟩, hb⟩; clear HU; replace HB := Aside0.mk (below_step (by repeat (first | (with_reducible exact HB.out) | apply below_alloc | apply pw_below_drewN | apply below_drew1 | refine below_set ?_ (by omega))) hb); replace B3 := Aside0.mk (blk_below (g := W.heap.size) (o := .cells #[.slice A0 lots.length c0, .slice A1 samples.length c1, .int .i64 spread, .slice (some ad) labs.length c3] 26 (0, 0)) (by (with_reducible repeat (first | exact B3.out | refine blk_drewN ?_ _ | refine blk_drew ?_ | refine blk_alloc ?_ _))) hb); replace BX := Aside0.mk (blk_below (g := gx) (o := .cells #[.slice A0 lots.length c0, .slice A1 samples.length c1, .int .i64 spread, .slice Ay L2.length cy] 26 (0, 0)) (by (with_reducible repeat (first | exact BX.out | refine blk_drewN ?_ _ | refine blk_drew ?_ | refine blk_alloc ?_ _))) hb); replace HX := Aside0.mk (HX.out.below (below_step (by repeat (first | (with_reducible exact Below.refl _ _) | apply below_alloc | apply pw_below_drewN | apply below_drew1)) hb)); (try replace HCl := Aside0.mk (Kd.C_below HCl.out (below_step (by repeat (first | (with_reducible exact Below.refl _ _) | apply below_alloc | apply pw_below_drewN | apply below_drew1)) hb))); (try replace HCm := Aside0.mk (Kd.C_below HCm.out (below_step (by repeat (first | (with_reducible exact Below.refl _ _) | apply below_alloc | apply pw_below_drewN | apply below_drew1)) hb))); clear hb; have HCm := Aside0.mk hCv; clear hCv; (try clear p0 p1 p2 p3); (try clear lt_B3); have lt_B3 := blk_lt B3.out; obtain ⟨p0, p1, p2, p3⟩ := cells4 B3.out; (try clear x0 x1 x2 x3); (try clear lt_BX); have lt_BX := blk_lt BX.out; obtain ⟨x0, x1, x2, x3⟩ := cells4 BX.out)))
   clear f1 p0 p1 p2 p3 x0 x1 x2 x3 lt_B3 lt_BX
   go_loopw [20] (fun q wr => ∃ i : Nat, i ≤ cl.length ∧ q = .int .i64 (i : Int) ∧ Aside0 (Below w24.heap.size w24 wr)) (fun q _ => cl.length - (intOf q).toNat)
   case atStart => exact ⟨0, Nat.zero_le _, rfl, ⟨Below.refl _ _⟩⟩
   case round =>
    obtain ⟨i, hi, rfl, HBr⟩ := hrel
    by_cases hlt : i < cl.length
    ·obtain ⟨m0, m1, m2⟩ := HCM.out i hlt
     obtain ⟨adC, hAC, hy⟩ := Kd.at_int (Kd.C_below HCl.out HBr.out) (i : Int) (by omega) (by omega)
     subst hAC
     rw [Int.toNat_natCast] at hy
     obtain ⟨x, hx⟩ : ∃ x, rd cl (i : Int) = x := ⟨_, rfl⟩
     rw [hx] at hy m0 m1 m2
     have k0 : decide ((i : Int) < (cl.length : Int)) = true := decide_eq_true (by omega)
     have q0 : (0 ≤ (i : Int)) = True := eq_true (by omega)
     have e2 : IntKind.i64.wrap (x + (labs.length : Int)) = x + (labs.length : Int) := IntWalk.i64_in _ (by omega)
     have e3 : IntKind.i64.wrap (x + (labs.length : Int) - (tn : Int)) = x + (labs.length : Int) - (tn : Int) := IntWalk.i64_in _ (by omega)
     clear hx
     go_wp2_with (first | (go_at_call 39; (with_reducible refine (has_at5 Am cm_ cm ((x + (labs.length : Int) - (tn : Int)) % (labs.length : Int)) (Kd.C_below HCm.out (by repeat (first | (with_reducible exact HBr.out) | apply below_alloc | apply pw_below_drewN | apply below_drew1 | refine below_set ?_ (by omega)))) hcm (by omega)).mono ?_); (rw [m2]); rintro e w25 ⟨rfl, hb⟩; replace HBr := Aside0.mk (below_step (by repeat (first | (with_reducible exact HBr.out) | apply below_alloc | apply pw_below_drewN | apply below_drew1 | refine below_set ?_ (by omega))) hb); clear hb))
     go_roundw
     case rel => exact ⟨i + 1, by omega, by go_num, HBr⟩
     case measure => simp [intOf]; omega
    ·have k0 : decide ((i : Int) < (cl.length : Int)) = false := decide_eq_false (by omega)
     have hbr := HBr.out
     replace HB := Aside0.mk (below_step HB.out hbr)
     replace B3 := Aside0.mk (blk_below (g := W.heap.size) (o := .cells #[.slice A0 lots.length c0, .slice A1 samples.length c1, .int .i64 spread, .slice (some ad) labs.length c3] 26 (0, 0)) B3.out hbr)
     replace BX := Aside0.mk (blk_below (g := gx) (o := .cells #[.slice A0 lots.length c0, .slice A1 samples.length c1, .int .i64 spread, .slice Ay L2.length cy] 26 (0, 0)) BX.out hbr)
     replace HX := Aside0.mk (HX.out.below hbr)
     clear hbr HBr HCl HCm
     obtain ⟨p0, p1, p2, p3⟩ := cells4 B3.out
     obtain ⟨x0, x1, x2, x3⟩ := cells4 BX.out
     have lt_B3 := blk_lt B3.out
     have lt_BX := blk_lt BX.out
     go_upto_region 25 with (first | (go_at_call 20; (with_reducible refine (round_at (HI.out.below (by repeat (first | (with_reducible exact HB.out) | apply below_alloc | apply pw_below_drewN | apply below_drew1 | refine below_set ?_ (by omega)))) HTh.out).mono ?_); rintro e w22 ⟨u, rfl, hu, hb⟩; replace HB := Aside0.mk (below_step (by repeat (first | (with_reducible exact HB.out) | apply below_alloc | apply pw_below_drewN | apply below_drew1 | refine below_set ?_ (by omega))) hb); replace B3 := Aside0.mk (blk_below (g := W.heap.size) (o := .cells #[.slice A0 lots.length c0, .slice A1 samples.length c1, .int .i64 spread, .slice (some ad) labs.length c3] 26 (0, 0)) (by (with_reducible repeat (first | exact B3.out | refine blk_drewN ?_ _ | refine blk_drew ?_ | refine blk_alloc ?_ _))) hb); replace BX := Aside0.mk (blk_below (g := gx) (o := .cells #[.slice A0 lots.length c0, .slice A1 samples.length c1, .int .i64 spread, .slice Ay L2.length cy] 26 (0, 0)) (by (with_reducible repeat (first | exact BX.out | refine blk_drewN ?_ _ | refine blk_drew ?_ | refine blk_alloc ?_ _))) hb); replace HX := Aside0.mk (HX.out.below (below_step (by repeat (first | (with_reducible exact Below.refl _ _) | apply below_alloc | apply pw_below_drewN | apply below_drew1)) hb)); (try replace HCl := Aside0.mk (Kd.C_below HCl.out (below_step (by repeat (first | (with_reducible exact Below.refl _ _) | apply below_alloc | apply pw_below_drewN | apply below_drew1)) hb))); (try replace HCm := Aside0.mk (Kd.C_below HCm.out (below_step (by repeat (first | (with_reducible exact Below.refl _ _) | apply below_alloc | apply pw_below_drewN | apply below_drew1)) hb))); (try replace HU := Aside0.mk (HU.out.below (below_step (by repeat (first | (with_reducible exact Below.refl _ _) | apply below_alloc | apply pw_below_drewN | apply below_drew1)) hb))); clear hb; have HU := Aside0.mk hu; clear hu; (try clear p0 p1 p2 p3); (try clear lt_B3); have lt_B3 := blk_lt B3.out; obtain ⟨p0, p1, p2, p3⟩ := cells4 B3.out; (try clear x0 x1 x2 x3); (try clear lt_BX); have lt_BX := blk_lt BX.out; obtain ⟨x0, x1, x2, x3⟩ := cells4 BX.out) | (go_at_call 32; (with_reducible refine (shifts_to (HU.out.below (by repeat (first | (with_reducible exact Below.refl _ _) | apply below_alloc | apply pw_below_drewN | apply below_drew1))) HS1.out).mono ?_); rintro e w26 ⟨rfl, hb⟩; clear HU; replace HB := Aside0.mk (below_step (by repeat (first | (with_reducible exact HB.out) | apply below_alloc | apply pw_below_drewN | apply below_drew1 | refine below_set ?_ (by omega))) hb); replace B3 := Aside0.mk (blk_below (g := W.heap.size) (o := .cells #[.slice A0 lots.length c0, .slice A1 samples.length c1, .int .i64 spread, .slice (some ad) labs.length c3] 26 (0, 0)) (by (with_reducible repeat (first | exact B3.out | refine blk_drewN ?_ _ | refine blk_drew ?_ | refine blk_alloc ?_ _))) hb); replace BX := Aside0.mk (blk_below (g := gx) (o := .cells #[.slice A0 lots.length c0, .slice A1 samples.length c1, .int .i64 spread, .slice Ay L2.length cy] 26 (0, 0)) (by (with_reducible repeat (first | exact BX.out | refine blk_drewN ?_ _ | refine blk_drew ?_ | refine blk_alloc ?_ _))) hb); replace HX := Aside0.mk (HX.out.below (below_step (by repeat (first | (with_reducible exact Below.refl _ _) | apply below_alloc | apply pw_below_drewN | apply below_drew1)) hb)); (try replace HCl := Aside0.mk (Kd.C_below HCl.out (below_step (by repeat (first | (with_reducible exact Below.refl _ _) | apply below_alloc | apply pw_below_drewN | apply below_drew1)) hb))); (try replace HCm := Aside0.mk (Kd.C_below HCm.out (below_step (by repeat (first | (with_reducible exact Below.refl _ _) | apply below_alloc | apply pw_below_drewN | apply below_drew1)) hb))); clear hb; (try clear p0 p1 p2 p3); (try clear lt_B3); have lt_B3 := blk_lt B3.out; obtain ⟨p0, p1, p2, p3⟩ := cells4 B3.out; (try clear x0 x1 x2 x3); (try clear lt_BX); have lt_BX := blk_lt BX.out; obtain ⟨x0, x1, x2, x3⟩ := cells4 BX.out))
     have BS := Aside0.mk (blk_new w26 (.cells #[.int .i64 s0, .int .i64 s1] 46))
     replace B3 := Aside0.mk (blk_alloc B3.out (.cells #[.int .i64 s0, .int .i64 s1] 46))
     replace BX := Aside0.mk (blk_alloc BX.out (.cells #[.int .i64 s0, .int .i64 s1] 46))
     replace HB := Aside0.mk (below_alloc HB.out (.cells #[.int .i64 s0, .int .i64 s1] 46))
     replace HX := Aside0.mk (HX.out.below (below_alloc (Below.refl _ w26) (.cells #[.int .i64 s0, .int .i64 s1] 46)))
     clear p0 p1 p2 p3 x0 x1 x2 x3 lt_B3 lt_BX
     generalize w26.alloc (.cells #[.int .i64 s0, .int .i64 s1] 46) = w27 at BS B3 BX HB HX ⊢
     generalize w26.heap.size = gs at BS ⊢
     obtain ⟨x0, x1, x2, x3⟩ := cells4 BX.out
     have lt_BX := blk_lt BX.out
     obtain ⟨y0, y1⟩ := cells2 BS.out
     have lt_BS := blk_lt BS.out
     clear B3
     go_wp2_with (first | (go_at_call 20; (with_reducible refine (round_at (HX.out.below (by repeat (first | (with_reducible exact Below.refl _ _) | apply below_alloc | apply pw_below_drewN | apply below_drew1))) HThX.out).mono ?_); rintro e w28 ⟨u, rfl, hu, hb⟩; replace HB := Aside0.mk (below_step (by repeat (first | (with_reducible exact HB.out) | apply below_alloc | apply pw_below_drewN | apply below_drew1 | refine below_set ?_ (by omega))) hb); replace BX := Aside0.mk (blk_below (g := gx) (o := .cells #[.slice A0 lots.length c0, .slice A1 samples.length c1, .int .i64 spread, .slice Ay L2.length cy] 26 (0, 0)) (by (with_reducible repeat (first | exact BX.out | refine blk_drewN ?_ _ | refine blk_drew ?_ | refine blk_alloc ?_ _))) hb); replace BS := Aside0.mk (blk_below (g := gs) (o := .cells #[.int .i64 s0, .int .i64 s1] 46 (0, 0)) (by (with_reducible repeat (first | exact BS.out | refine blk_drewN ?_ _ | refine blk_drew ?_ | refine blk_alloc ?_ _))) hb); replace HX := Aside0.mk (HX.out.below (below_step (by repeat (first | (with_reducible exact Below.refl _ _) | apply below_alloc | apply pw_below_drewN | apply below_drew1)) hb)); (try replace HU := Aside0.mk (HU.out.below (below_step (by repeat (first | (with_reducible exact Below.refl _ _) | apply below_alloc | apply pw_below_drewN | apply below_drew1)) hb))); clear hb; have HU := Aside0.mk hu; clear hu; (try clear x0 x1 x2 x3); (try clear lt_BX); have lt_BX := blk_lt BX.out; obtain ⟨x0, x1, x2, x3⟩ := cells4 BX.out; (try clear y0 y1); (try clear lt_BS); have lt_BS := blk_lt BS.out; obtain ⟨y0, y1⟩ := cells2 BS.out) | (go_at_call 32; (with_reducible refine (shifts_to (HU.out.below (by repeat (first | (with_reducible exact Below.refl _ _) | apply below_alloc | apply pw_below_drewN | apply below_drew1))) HS2.out).mono ?_); rintro e w29 ⟨rfl, hb⟩; clear HU; replace HB := Aside0.mk (below_step (by repeat (first | (with_reducible exact HB.out) | apply below_alloc | apply pw_below_drewN | apply below_drew1 | refine below_set ?_ (by omega))) hb); replace BX := Aside0.mk (blk_below (g := gx) (o := .cells #[.slice A0 lots.length c0, .slice A1 samples.length c1, .int .i64 spread, .slice Ay L2.length cy] 26 (0, 0)) (by (with_reducible repeat (first | exact BX.out | refine blk_drewN ?_ _ | refine blk_drew ?_ | refine blk_alloc ?_ _))) hb); replace BS := Aside0.mk (blk_below (g := gs) (o := .cells #[.int .i64 s0, .int .i64 s1] 46 (0, 0)) (by (with_reducible repeat (first | exact BS.out | refine blk_drewN ?_ _ | refine blk_drew ?_ | refine blk_alloc ?_ _))) hb); replace HX := Aside0.mk (HX.out.below (below_step (by repeat (first | (with_reducible exact Below.refl _ _) | apply below_alloc | apply pw_below_drewN | apply below_drew1)) hb)); clear hb; (try clear x0 x1 x2 x3); (try clear lt_BX); have lt_BX := blk_lt BX.out; obtain ⟨x0, x1, x2, x3⟩ := cells4 BX.out; (try clear y0 y1); (try clear lt_BS); have lt_BS := blk_lt BS.out; obtain ⟨y0, y1⟩ := cells2 BS.out) | (go_at_call 18; (with_reducible refine (wakes_any _).mono ?_); rintro e w30 ⟨rfl, hb⟩; replace HB := Aside0.mk (below_step (by repeat (first | (with_reducible exact HB.out) | apply below_alloc | apply pw_below_drewN | apply below_drew1 | refine below_set ?_ (by omega))) hb); clear hb))
     go_ret
     exact ⟨rfl, HB.out⟩
end Go.Proofs.Ytcpbhklaffgokaa.Q
namespace Go.Proofs.Ytcpbhklaffgokaa.Q
open Go.ChangeShapes Go.WideShapes Go.ChangeAt Go.RowKit Go.Deep Go.Joins Go.Proofs.YtcpbhklaffgokaaW.PrintWords Go.Proofs.YtcpbhklaffgokaaW.PrintLast Go.Proofs.YtcpbhklaffgokaaW.PrintMore
set_option linter.unusedVariables false
set_option linter.unusedSimpArgs false
end Go.Proofs.Ytcpbhklaffgokaa.Q
namespace Go.Proofs.Ytcpbhklaffgokaa.Q
open Go.RowKit Go.Proofs.YtcpbhklaffgokaaW.PrintWords Go.Proofs.YtcpbhklaffgokaaW.PrintLast Go.Proofs.YtcpbhklaffgokaaW.PrintMore
set_option linter.unusedVariables false
set_option linter.unusedSimpArgs false
theorem RoundOrder_walk (A0 : Option Addr) (c0 : Nat) (lots : List S44) (A1 : Option Addr) (c1 : Nat) (samples : List Int) (spread : Int) (A3 : Option Addr) (c3 : Nat) (labs : List S62) (bits by_ : Int) (W : World) {v : Value} (hi : In26 W v A0 c0 lots A1 c1 samples spread A3 c3 labs)
  (wb : (Lit.int .u8 bits).wf = true) (wy : (Lit.int .u8 by_).wf = true) :
  Calls Try.prog 16 #[.agg #[.slice A0 lots.length c0, .slice A1 samples.length c1, .int .i64 spread, .slice A3 labs.length c3], .int .u8 bits, .int .u8 by_] W fun e W' => e = .returned (.bool true) ∧ Below W.heap.size W W' := by
 obtain ⟨b, hb, ht⟩ := ready_ev lots samples spread labs hi.sz
 cases b with
 | false => exact order_no hi bits by_ hb
 | true =>
  obtain ⟨hth, hok⟩ := ht rfl
  by_cases hn : labs.length = 0
  ·exact order_none hi bits by_ hb hn
  ·obtain ⟨y0, y1⟩ := u8_wf wy
   have h6 : labs.length ≤ 6 := by have := hok.b6; rwa [List.length_map] at this
   have k0 := Int.tmod_nonneg (labs.length : Int) y0
   have k1 := Int.tmod_lt_of_pos by_ (show (0 : Int) < labs.length by omega)
   obtain ⟨t, ht⟩ : ∃ t : Nat, Int.tmod by_ (labs.length : Int) = (t : Int) := ⟨(Int.tmod by_ (labs.length : Int)).toNat, by omega⟩
   have htn : t < labs.length := by omega
   have htm : t < (labs.map m75).length := by rw [List.length_map]; exact htn
   have hokX := rot_ok hok htm
   have em := rotL_map m75 t labs
   have hr : risingB (labs.map m75).length (chosenF labs.length bits) = true := by rw [List.length_map]; exact chosenF_rising _ _
   have hrX : risingB (rotL t (labs.map m75)).length (chosenF labs.length (othF labs.length t bits labs.length)) = true := by rw [rotL_length _ _ (by omega), List.length_map]; exact chosenF_rising _ _
   have hc := chosenF_length labs.length bits
   have hcX := chosenF_length labs.length (othF labs.length t bits labs.length)
   obtain ⟨g1, g2, g3, g4⟩ := conv_rot hok htm
   rw [List.length_map] at g3 g4
   have hcan : canF (lots.map m46) samples spread (rotL t (labs.map m75)) (offOf (chosenF labs.length (othF labs.length t bits labs.length))) = canF (lots.map m46) samples spread (labs.map m75) (offOf (chosenF labs.length bits)) :=
    rot_canF hok htm _ _ (fun j hj => by rw [List.length_map] at hj ⊢; exact oth_off labs.length t bits h6 htn j hj)
   refine order_at hi bits by_ hb hth t ⟨hth.a, hth.b, by rw [rotL_length _ _ (by omega)]; exact hth.c, fun x hx => hth.d x (rotL_mem hx)⟩ h6 y0 y1 htn ht _ _ rfl rfl (by omega) (by omega) _ (explainsF_ok hok hr) (by rw [em, explainsF_ok hokX hrX, hcan]) (convF (lots.map m46) samples spread (labs.map m75)).1 (convF (lots.map m46) samples spread (rotL t (labs.map m75))).1 (convF (lots.map m46) samples spread (labs.map m75)).2 rfl (by rw [em, ← g1]) (by omega) (by omega) (by omega) (fun i hi => ?_) (shiftsF (lots.map m46) samples spread (labs.map m75) (t : Int)).1.f0 (shiftsF (lots.map m46) samples spread (labs.map m75) (t : Int)).1.f1 (shiftsF (lots.map m46) samples spread (labs.map m75) (t : Int)).2 rfl (by rw [em, rot_shifts hok htm])
   have hm : rd (convF (lots.map m46) samples spread (labs.map m75)).1 (i : Int) ∈ (convF (lots.map m46) samples spread (labs.map m75)).1 := by
    unfold rd
    rw [Int.toNat_natCast, List.getD_eq_getElem?_getD, List.getElem?_eq_getElem hi]
    exact List.getElem_mem _
   obtain ⟨a, b, c⟩ := g4 _ hm
   generalize rd (convF (lots.map m46) samples spread (labs.map m75)).1 (i : Int) = x at a b c
   refine ⟨a, b, ?_⟩
   rw [List.contains_iff_mem]
   have e : (x + (labs.length : Int) - (t : Int)) % (labs.length : Int) = (((x.toNat + labs.length - t) % labs.length : Nat) : Int) := by
    rw [show x + (labs.length : Int) - (t : Int) = ((x.toNat + labs.length - t : Nat) : Int) by omega]
    rfl
   rw [e]
   exact c
end Go.Proofs.Ytcpbhklaffgokaa.Q
