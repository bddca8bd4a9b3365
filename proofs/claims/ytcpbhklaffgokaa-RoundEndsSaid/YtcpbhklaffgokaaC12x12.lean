import Derived.IntWalk
import Derived.Test.YtcpbhklaffgokaaC12x11
namespace Go.Proofs.Ytcpbhklaffgokaa.Q
open Go.RowKit Go.Proofs.YtcpbhklaffgokaaW.PrintWords Go.Proofs.YtcpbhklaffgokaaW.PrintLast Go.Proofs.YtcpbhklaffgokaaW.PrintMore
set_option linter.unusedVariables false
set_option linter.unusedSimpArgs false
section
variable (lots : List S44) (samples : List Int) (spread : Int) (labs : List S62) (words : List Int) (bits shift : Int)
end
theorem r4 {α : Type} {d : Kd α} {e : Nat} {w : World} {base g : Nat} {ok : Nat → Prop} {v : Value} {xs : List α} (h : d.R e w base ok v xs) (hg : g < base) (u0 u1 u2 u3 : Value) : d.R e ((((w.setCell ⟨g, 0, none⟩ u0).setCell ⟨g, 1, none⟩ u1).setCell ⟨g, 2, none⟩ u2).setCell ⟨g, 3, none⟩ u3) base ok v xs := by
 have H : ∀ {w : World} (i : Nat) (u : Value), d.R e w base (fun k => ok k ∧ base ≤ k) v xs → d.R e (w.setCell ⟨g, i, none⟩ u) base (fun k => ok k ∧ base ≤ k) v xs := fun i u h => Kd.R_far h (fun k hk => (by have := hk.2; dsimp only; omega)) u
 exact Kd.R_mono (H 3 u3 (H 2 u2 (H 1 u1 (H 0 u0 (Kd.R_mono (Kd.R_bound h) (fun k hk => ⟨hk.1, hk.2.1⟩)))))) (fun k hk => hk.1)
end Go.Proofs.Ytcpbhklaffgokaa.Q
namespace Go.Proofs.Ytcpbhklaffgokaa.Q
open Go.RowKit Go.Proofs.YtcpbhklaffgokaaW.PrintWords Go.Proofs.YtcpbhklaffgokaaW.PrintLast Go.Proofs.YtcpbhklaffgokaaW.PrintMore
set_option linter.unusedVariables false
set_option linter.unusedSimpArgs false
section
variable {lots : List S46} {samples : List Int} {spread : Int} {labs : List S75}
end
end Go.Proofs.Ytcpbhklaffgokaa.Q
namespace Go.Proofs.Ytcpbhklaffgokaa.Q
open Go.RowKit Go.Proofs.YtcpbhklaffgokaaW.PrintWords Go.Proofs.YtcpbhklaffgokaaW.PrintLast Go.Proofs.YtcpbhklaffgokaaW.PrintMore
set_option linter.unusedVariables false
set_option linter.unusedSimpArgs false
section
variable (lots : List S44) (samples : List Int) (spread : Int) (labs : List S62)
end
end Go.Proofs.Ytcpbhklaffgokaa.Q
namespace Go.Proofs.Ytcpbhklaffgokaa.Q
open Go.RowKit Go.Proofs.YtcpbhklaffgokaaW.PrintWords Go.Proofs.YtcpbhklaffgokaaW.PrintLast Go.Proofs.YtcpbhklaffgokaaW.PrintMore
attribute [local go_sem] max2_int min2_int max_two min_two max_three min_three max_four min_four
set_option linter.unusedVariables false
set_option linter.unusedSimpArgs false
end Go.Proofs.Ytcpbhklaffgokaa.Q
namespace Go.Proofs.Ytcpbhklaffgokaa.Q
open Go.RowKit Go.Proofs.YtcpbhklaffgokaaW.PrintWords Go.Proofs.YtcpbhklaffgokaaW.PrintLast Go.Proofs.YtcpbhklaffgokaaW.PrintMore
set_option linter.unusedVariables false
set_option linter.unusedSimpArgs false
end Go.Proofs.Ytcpbhklaffgokaa.Q
namespace Go.Proofs.Ytcpbhklaffgokaa.Q
open Go.RowKit Go.Proofs.YtcpbhklaffgokaaW.PrintWords Go.Proofs.YtcpbhklaffgokaaW.PrintLast Go.Proofs.YtcpbhklaffgokaaW.PrintMore
set_option linter.unusedVariables false
set_option linter.unusedSimpArgs false
section
variable {lots : List S44} {samples : List Int} {spread : Int} {labs : List S62} {words : List Int} {bits shift : Int}
end
end Go.Proofs.Ytcpbhklaffgokaa.Q
namespace Go.Proofs.Ytcpbhklaffgokaa.Q
open Go.RowKit Go.Proofs.YtcpbhklaffgokaaW.PrintWords Go.Proofs.YtcpbhklaffgokaaW.PrintLast Go.Proofs.YtcpbhklaffgokaaW.PrintMore
set_option linter.unusedVariables false
set_option linter.unusedSimpArgs false
def oneRead (m k : Nat) (n : Int) : List Int := (List.replicate m (-1)).set k n
theorem oneRead_length (m k : Nat) (n : Int) : (oneRead m k n).length = m := by unfold oneRead; rw [List.length_set, List.length_replicate]
theorem rd_one (m k i : Nat) (n : Int) (hi : i < m) : rd (oneRead m k n) (i : Int) = if k = i then n else -1 := by
 unfold rd oneRead
 rw [Int.toNat_natCast, List.getD_eq_getElem?_getD, List.getElem?_set]
 by_cases e : k = i
 ·subst e
  rw [if_pos rfl, if_pos rfl, if_pos (by rw [List.length_replicate]; exact hi)]
  rfl
 ·rw [if_neg e, if_neg e, List.getElem?_replicate, if_pos hi]
  rfl
section
variable {lots : List S46} {samples : List Int} {spread : Int} {labs : List S75}
theorem ends_ok (hok : RoundOk lots samples spread labs) (h5 : labs.length ≤ 5) (k : Nat) (n : Int) (h0 : 0 ≤ n) (h1 : n ≤ 1000) : RoundOk lots samples spread (labs ++ [⟨0, oneRead samples.length k n⟩]) := by
 obtain ⟨l0, l4, s8, b6, hlot, hsmp, sp0, sp1, hlab⟩ := hok
 refine ⟨l0, l4, s8, by rw [List.length_append]; simp only [List.length_cons, List.length_nil]; omega, hlot, hsmp, sp0, sp1, fun x hx => ?_⟩
 rcases List.mem_append.1 hx with hx | hx
 ·exact hlab x hx
 ·rw [List.mem_singleton.1 hx]
  refine ⟨Int.le_refl _, by show (0 : Int) ≤ 100; omega, oneRead_length _ _ _, fun y hy => ?_⟩
  rcases List.mem_or_eq_of_mem_set (show y ∈ (List.replicate samples.length (-1 : Int)).set k n from hy) with hy | rfl
  ·rw [(List.mem_replicate.1 hy).2]
   omega
  ·omega
theorem getD_snoc {α : Type} (xs : List α) (x z : α) (j : Nat) : (xs ++ [x]).getD j z = if j < xs.length then xs.getD j z else if j = xs.length then x else z := by
 rw [List.getD_eq_getElem?_getD, List.getElem?_append, List.getD_eq_getElem?_getD]
 by_cases h : j < xs.length
 ·rw [if_pos h, if_pos h]
 ·rw [if_neg h, if_neg h]
  by_cases e : j = xs.length
  ·subst e
   simp
  ·rw [if_neg e]
   obtain ⟨m, hm⟩ : ∃ m, j - xs.length = m + 1 := ⟨j - xs.length - 1, by omega⟩
   rw [hm]
   rfl
theorem ends_samp (k : Nat) (n : Int) (h0 : 0 ≤ n) (o : Nat → Bool) (ho : o labs.length = false) (i : Nat) (hi : i < samples.length) (v : Int) :
  inR v (sampR (labs ++ [⟨0, oneRead samples.length k n⟩]) o (-1) 0 (i : Int)) ↔ inR v (sampR labs o (-1) 0 (i : Int)) ∧ (k = i → v = n) := by
 have hrd := rd_one samples.length k i n hi
 rw [sampR_iff, sampR_iff]
 constructor
 ·rintro ⟨hf, h⟩
  refine ⟨⟨hf, fun j hj hoj hn => ?_⟩, fun e => ?_⟩
  ·have := h j (by rw [List.length_append]; simp only [List.length_cons, List.length_nil]; omega) hoj
   rw [getD_snoc, if_pos hj] at this
   exact this hn
  ·rw [if_pos e] at hrd
   have := h labs.length (by rw [List.length_append]; simp only [List.length_cons, List.length_nil]; omega) ho
   rw [getD_snoc, if_neg (Nat.lt_irrefl _), if_pos rfl] at this
   have h2 := this (by show rd (oneRead samples.length k n) (i : Int) ≠ -1; rw [hrd]; omega)
   unfold rangeOf rdL inR at h2
   simp only [hrd] at h2
   rw [if_neg (by omega)] at h2
   omega
 ·rintro ⟨⟨hf, h⟩, hk⟩
  refine ⟨hf, fun j hj hoj hn => ?_⟩
  rw [List.length_append] at hj
  simp only [List.length_cons, List.length_nil] at hj
  by_cases hlt : j < labs.length
  ·rw [getD_snoc, if_pos hlt] at hn ⊢
   exact h j hlt hoj hn
  ·obtain rfl : j = labs.length := by omega
   rw [getD_snoc, if_neg (Nat.lt_irrefl _), if_pos rfl] at hn ⊢
   have hn : rd (oneRead samples.length k n) (i : Int) ≠ -1 := hn
   rw [hrd] at hn
   by_cases e : k = i
   ·rw [if_pos e] at hrd
    have hv := hk e
    unfold rangeOf rdL inR
    simp only [hrd]
    rw [if_neg (by omega)]
    omega
   ·rw [if_neg e] at hn
    exact absurd rfl hn
theorem ends_can (hok : RoundOk lots samples spread labs) (h5 : labs.length ≤ 5) (k : Nat) (hk : k < samples.length) (n : Int) (h0 : 0 ≤ n) (h1 : n ≤ 1000) (o : Nat → Bool) (ho : o labs.length = false) (hc : canF lots samples spread labs o = true) :
  canF lots samples spread (labs ++ [⟨0, oneRead samples.length k n⟩]) o = true ↔ inR n ((spansF lots samples spread labs o (-1) 0).1.getD k z46) := by
 have hok' := ends_ok hok h5 k n h0 h1
 have hcan := (can_iff hok o (-1) 0).1 hc
 show (spansF lots samples spread (labs ++ [⟨0, oneRead samples.length k n⟩]) o (-1) 0).2 = true ↔ _
 rw [can_iff hok' o (-1) 0, spans_iff hok o (-1) 0 hc k hk n]
 obtain ⟨s0, s1⟩ := smp_lt hok k hk
 constructor
 ·intro h
  obtain ⟨v, hv, hf⟩ := h _ s1
  obtain ⟨u, hu, p, q⟩ := hf k hk rfl
  obtain ⟨hu2, he⟩ := (ends_samp k n h0 o ho k hk u).1 hu
  have he := he rfl
  subst he
  refine ⟨hu2, v, hv, fun i hi e => ?_, by omega, by omega⟩
  obtain ⟨u', hu', p', q'⟩ := hf i hi e
  exact ⟨u', ((ends_samp k u h0 o ho i hi u').1 hu').1, p', q'⟩
 ·rintro ⟨hn, v, hv, hf, p, q⟩ L hL
  by_cases e : L = (samples.getD k 0).toNat
  ·subst e
   refine ⟨v, hv, fun i hi e => ?_⟩
   by_cases hki : k = i
   ·subst hki
    exact ⟨n, (ends_samp k n h0 o ho k hi n).2 ⟨hn, fun _ => rfl⟩, by omega, by omega⟩
   ·obtain ⟨u, hu, p', q'⟩ := hf i hi e
    exact ⟨u, (ends_samp k n h0 o ho i hi u).2 ⟨hu, fun h => absurd h hki⟩, p', q'⟩
  ·obtain ⟨v', hv', hf'⟩ := hcan L hL
   refine ⟨v', hv', fun i hi ei => ?_⟩
   obtain ⟨u, hu, p', q'⟩ := hf' i hi ei
   refine ⟨u, (ends_samp k n h0 o ho i hi u).2 ⟨hu, fun h => ?_⟩, p', q'⟩
   subst h
   omega
end
end Go.Proofs.Ytcpbhklaffgokaa.Q
namespace Go.Proofs.Ytcpbhklaffgokaa.Q
open Go.RowKit Go.Proofs.YtcpbhklaffgokaaW.PrintWords Go.Proofs.YtcpbhklaffgokaaW.PrintLast Go.Proofs.YtcpbhklaffgokaaW.PrintMore
set_option linter.unusedVariables false
set_option linter.unusedSimpArgs false
theorem raw_C {α : Type} {d : Kd α} {w : World} {A : Option Addr} {xs : List α} (h : d.C w A xs.length xs) :
  ∃ rows : List (List Value), rows.length = xs.length ∧ (Kd.raw d.sz).C w A rows.length rows ∧ ∀ (j : Nat) (p : α), xs[j]? = some p → ∃ c, rows[j]? = some c ∧ d.K w p c := by
 obtain ⟨h1, h2, h3⟩ := h
 by_cases hn : 0 < xs.length
 ·obtain ⟨ad, hA, hc⟩ := h3 hn
  have key : ∀ j : Fin xs.length, ∃ c : List Value, c.length = d.sz ∧ d.K w xs[j] c ∧ ∀ i u, c[i]? = some u → w.cell? (ad.add (j.1 * d.sz + i)) = some u := fun j => hc j.1 _ (List.getElem?_eq_getElem j.2)
  have hf := fun j => Classical.choose_spec (key j)
  have hg : ∀ (j : Nat) (p : List Value), (List.ofFn fun j => Classical.choose (key j))[j]? = some p → ∃ hj : j < xs.length, p = Classical.choose (key ⟨j, hj⟩) := fun j p hp => by
   have hj : j < xs.length := by
    have := (List.getElem?_eq_some_iff.1 hp).1
    rwa [List.length_ofFn] at this
   refine ⟨hj, ?_⟩
   rw [List.getElem?_eq_getElem (by rw [List.length_ofFn]; exact hj), List.getElem_ofFn] at hp
   exact (Option.some.inj hp).symm
  refine ⟨List.ofFn fun j => Classical.choose (key j), List.length_ofFn, ⟨rfl, by rw [List.length_ofFn]; exact h2, fun _ => ⟨ad, hA, fun j p hp => ?_⟩⟩, fun j p hp => ?_⟩
  ·obtain ⟨hj, rfl⟩ := hg j p hp
   obtain ⟨a, b, c⟩ := hf ⟨j, hj⟩
   exact ⟨_, a, ⟨rfl, a, d.K_one b⟩, c⟩
  ·have hj := (List.getElem?_eq_some_iff.1 hp).1
   obtain ⟨a, b, c⟩ := hf ⟨j, hj⟩
   refine ⟨Classical.choose (key ⟨j, hj⟩), ?_, ?_⟩
   ·rw [List.getElem?_eq_getElem (by rw [List.length_ofFn]; exact hj), List.getElem_ofFn]
   ·have e : xs[j] = p := (List.getElem?_eq_some_iff.1 hp).2
    rw [← e]
    exact b
 ·have hx : xs = [] := List.eq_nil_of_length_eq_zero (by omega)
  subst hx
  exact ⟨[], rfl, ⟨rfl, by simp, fun h => absurd h (by simp)⟩, fun j p hp => by simp at hp⟩
theorem raw_C' {α : Type} {d : Kd α} {w : World} {A : Option Addr} {xs : List α} (h : d.C w A xs.length xs) :
  ∃ rows : List (List Value), rows.length = xs.length ∧ (Kd.raw d.sz).C w A xs.length rows ∧ ∀ (j : Nat) (p : α), xs[j]? = some p → ∃ c, rows[j]? = some c ∧ d.K w p c := by
 obtain ⟨rows, hl, hC, hk⟩ := raw_C h
 refine ⟨rows, hl, ?_, hk⟩
 rw [← hl]
 exact hC
theorem C_raw {α : Type} {d : Kd α} {w : World} {A : Option Addr} {xs : List α} {rows : List (List Value)} (hl : rows.length = xs.length) (h : (Kd.raw d.sz).C w A rows.length rows) (hk : ∀ (j : Nat) (p : α), xs[j]? = some p → ∃ c, rows[j]? = some c ∧ d.K w p c) : d.C w A xs.length xs := by
 obtain ⟨h1, h2, h3⟩ := h
 refine ⟨rfl, by rw [← hl]; exact h2, fun hn => ?_⟩
 obtain ⟨ad, hA, hc⟩ := h3 (by omega)
 refine ⟨ad, hA, fun j p hp => ?_⟩
 obtain ⟨c, hj, hK⟩ := hk j p hp
 obtain ⟨c', a, ⟨rfl, b, e⟩, f⟩ := hc j c hj
 exact ⟨c', a, hK, f⟩
theorem blk_rows {e : Nat} {w : World} {g : Nat} {cur : Array Value} {rows : List (List Value)} (hh : w.heap[g]? = some (.cells cur e (0, 0))) (hn : rows.length ≤ 9223372036854775807)
  (h : ∀ (j : Nat) (row : List Value), rows[j]? = some row → row.length = 2 ∧ (∀ u ∈ row, u.oneCell' = true) ∧ ∀ (i : Nat) (u : Value), row[i]? = some u → cur[j * 2 + i]? = some u) : (Kd.raw 2).C w (some ⟨g, 0, none⟩) rows.length rows := by
 refine ⟨rfl, hn, fun _ => ⟨⟨g, 0, none⟩, rfl, fun j row hj => ?_⟩⟩
 obtain ⟨a, b, c⟩ := h j row hj
 refine ⟨row, a, ⟨rfl, a, b⟩, fun i u hu => ?_⟩
 have e2 : (⟨g, 0, none⟩ : Addr).add (j * 2 + i) = ⟨g, j * 2 + i, none⟩ := by simp [Addr.add]; omega
 have e3 : (Kd.raw 2).sz = 2 := rfl
 rw [e3, e2, blk_cell hh]
 exact c i u hu
end Go.Proofs.Ytcpbhklaffgokaa.Q
namespace Go.Proofs.Ytcpbhklaffgokaa.Q
open Go.RowKit Go.Proofs.YtcpbhklaffgokaaW.PrintWords Go.Proofs.YtcpbhklaffgokaaW.PrintLast Go.Proofs.YtcpbhklaffgokaaW.PrintMore
set_option linter.unusedVariables false
set_option linter.unusedSimpArgs false
section
variable {P : Program} {ops : Array Oper} {o : Oper} {a : Act} {Q : Exit → Act → World → Prop} {Kc : Act → World → Prop}
theorem lit_blk_step {W : World} (hw : Region.wanted o (yielded ops a.tmps) = true) {N : Tmp} (_hd : o.dst = some N) {cs : Array Value} {t : TypeId} {n : Nat}
  (hrun : (execOp a.eval o).run P W = .ok (.value (.slice (some ⟨W.heap.size, 0, none⟩) n n)) (W.alloc (.cells cs t (0, 0))))
  (h : ∀ g, g = W.heap.size → ∀ w1, w1.heap[g]? = some (.cells cs t (0, 0)) → Below W.heap.size W w1 → Kc (a.put o.dst (.slice (some ⟨g, 0, none⟩) n n)) w1) : if Region.wanted o (yielded ops a.tmps) = true then Oper.wp P o a W Kc Q else Kc (a.put o.dst undef) W :=
 event_step hw hrun (h _ rfl _ (blk_new W _) (below_alloc (Below.refl _ _) _))
end
theorem rows_snoc {w : World} {labs : List S62} {rb : List (List Value)} {x : S62} {row : List Value} (hl : rb.length = labs.length) (hk : ∀ (j : Nat) (p : S62), labs[j]? = some p → ∃ c, rb[j]? = some c ∧ k62.K w p c) (hx : k62.K w x row) :
  ∀ (j : Nat) (p : S62), (labs ++ [x])[j]? = some p → ∃ c, (rb ++ [row])[j]? = some c ∧ k62.K w p c := by
 intro j p hp
 rw [List.getElem?_append] at hp ⊢
 by_cases h : j < labs.length
 ·rw [if_pos h] at hp
  rw [if_pos (by omega)]
  exact hk j p hp
 ·rw [if_neg h] at hp
  rw [if_neg (by omega), hl]
  by_cases e : j - labs.length = 0
  ·rw [e] at hp ⊢
   exact ⟨row, rfl, by cases hp; exact hx⟩
  ·obtain ⟨m, hm⟩ : ∃ m, j - labs.length = m + 1 := ⟨j - labs.length - 1, by omega⟩
   rw [hm] at hp
   cases hp
theorem one_row {e : Nat} {w : World} {g : Nat} {u v : Value} (hh : w.heap[g]? = some (.cells #[u, v] e (0, 0))) (hu : u.oneCell' = true) (hv : v.oneCell' = true) : (Kd.raw 2).C w (some ⟨g, 0, none⟩) 1 [[u, v]] := by
 refine blk_rows (rows := [[u, v]]) hh (by simp) (fun j row hj => ?_)
 cases j with
 | zero =>
  obtain rfl : [u, v] = row := Option.some.inj hj
  refine ⟨rfl, fun x hx => ?_, fun i x hx => ?_⟩
  ·rcases List.mem_cons.1 hx with rfl | hx
   ·exact hu
   ·rw [List.mem_singleton.1 hx]
    exact hv
  ·rw [Nat.zero_mul, Nat.zero_add]
   simpa using hx
 | succ j => cases hj
theorem cells5 {w : World} {g : Nat} {a b c d e : Value} {t : TypeId} (h : w.heap[g]? = some (.cells #[a, b, c, d, e] t (0, 0))) : w.cell? ⟨g, 0, none⟩ = some a ∧ w.cell? ⟨g, 1, none⟩ = some b ∧ w.cell? ⟨g, 2, none⟩ = some c ∧ w.cell? ⟨g, 3, none⟩ = some d ∧ w.cell? ⟨g, 4, none⟩ = some e :=
 ⟨(blk_cell h 0).trans rfl, (blk_cell h 1).trans rfl, (blk_cell h 2).trans rfl, (blk_cell h 3).trans rfl, (blk_cell h 4).trans rfl⟩
end Go.Proofs.Ytcpbhklaffgokaa.Q
namespace Go.Proofs.Ytcpbhklaffgokaa.Q
open Go.RowKit Go.Proofs.YtcpbhklaffgokaaW.PrintWords Go.Proofs.YtcpbhklaffgokaaW.PrintLast Go.Proofs.YtcpbhklaffgokaaW.PrintMore
set_option linter.unusedVariables false
set_option linter.unusedSimpArgs false
theorem inL_mk4 {W : World} {A : Option Addr} {c : Nat} {l : List Int} (hc : l.length ≤ c) (hC : (Kd.int .i64).C W A l.length l) : InL W (.slice A l.length c) l := ⟨A, c, rfl, hc, hC⟩
theorem tried5 {w : World} {g : Nat} {a b c d e : Int} {t : TypeId} (h : w.heap[g]? = some (.cells #[.int .i64 a, .int .i64 b, .int .i64 c, .int .i64 d, .int .i64 e] t (0, 0))) (i : Nat) (hi : i < 5) : w.cell? ⟨g, i, none⟩ = some (.int .i64 ([a, b, c, d, e].getD i 0)) := by
 obtain ⟨h0, h1, h2, h3, h4⟩ := cells5 h
 match i, hi with
 | 0, _ => exact h0
 | 1, _ => exact h1
 | 2, _ => exact h2
 | 3, _ => exact h3
 | 4, _ => exact h4
theorem blk_new2 (W : World) (o1 o2 : Obj) : ((W.alloc o1).alloc o2).heap[W.heap.size + 1]? = some o2 := by
 have := blk_new (W.alloc o1) o2
 have e : (W.alloc o1).heap.size = W.heap.size + 1 := by simp
 rwa [e] at this
theorem rep_snoc (m : Nat) : List.replicate m (-1 : Int) ++ [-1] = List.replicate (m + 1) (-1) := by rw [List.replicate_succ']
set_option maxHeartbeats 4000000 in
set_option maxRecDepth 100000 in
theorem ends_no {W : World} {v : Value} {A0 : Option Addr} {c0 : Nat} {lots : List S44} {A1 : Option Addr} {c1 : Nat} {samples : List Int} {spread : Int} {A3 : Option Addr} {c3 : Nat} {labs : List S62} (h : In26 W v A0 c0 lots A1 c1 samples spread A3 c3 labs) (bits sample value : Int) (hr : Ev (fun k => tensilelaw08_ready.f k lots samples spread labs) false) :
  Calls Try.prog 8 #[.agg #[.slice A0 lots.length c0, .slice A1 samples.length c1, .int .i64 spread, .slice A3 labs.length c3], .int .u8 bits, .int .u8 sample, .int .u16 value] W (RetB W (.bool true)) := by
 have HI := Aside0.mk h
 have HB := Aside0.mk (below_alloc (Below.refl _ W) (.cells #[.slice A0 lots.length c0, .slice A1 samples.length c1, .int .i64 spread, .slice A3 labs.length c3] 26))
 have B3 := Aside0.mk (blk_new W (.cells #[.slice A0 lots.length c0, .slice A1 samples.length c1, .int .i64 spread, .slice A3 labs.length c3] 26))
 obtain ⟨p0, p1, p2, p3⟩ := cells4 B3.out
 have lt_B3 := blk_lt B3.out
 have HRd := Aside0.mk hr
 clear h hr
 go_enter Try.func8, Try.ntmps8
 go_wp2_with (first | (go_at_call 35; (with_reducible refine (ready_at (HI.out.below (by repeat (first | (with_reducible exact HB.out) | apply below_alloc | apply pw_below_drewN | apply below_drew1 | refine below_set ?_ (by omega)))) HRd.out).mono ?_); rintro e w1 ⟨rfl, hb⟩; replace HB := Aside0.mk (below_step (by repeat (first | (with_reducible exact HB.out) | apply below_alloc | apply pw_below_drewN | apply below_drew1 | refine below_set ?_ (by omega))) hb); replace B3 := Aside0.mk (blk_below (g := W.heap.size) (o := .cells #[.slice A0 lots.length c0, .slice A1 samples.length c1, .int .i64 spread, .slice A3 labs.length c3] 26 (0, 0)) (by (with_reducible repeat (first | exact B3.out | refine blk_drewN ?_ _ | refine blk_drew ?_ | refine blk_alloc ?_ _))) hb); clear hb; (try clear p0 p1 p2 p3); (try clear lt_B3); have lt_B3 := blk_lt B3.out; obtain ⟨p0, p1, p2, p3⟩ := cells4 B3.out) | (go_at_call 18; (with_reducible refine (wakes_any _).mono ?_); rintro e w9 ⟨rfl, hb⟩; replace HB := Aside0.mk (below_step (by repeat (first | (with_reducible exact HB.out) | apply below_alloc | apply pw_below_drewN | apply below_drew1 | refine below_set ?_ (by omega))) hb); replace B3 := Aside0.mk (blk_below (g := W.heap.size) (o := .cells #[.slice A0 lots.length c0, .slice A1 samples.length c1, .int .i64 spread, .slice A3 labs.length c3] 26 (0, 0)) (by (with_reducible repeat (first | exact B3.out | refine blk_drewN ?_ _ | refine blk_drew ?_ | refine blk_alloc ?_ _))) hb); clear hb; (try clear p0 p1 p2 p3); (try clear lt_B3); have lt_B3 := blk_lt B3.out; obtain ⟨p0, p1, p2, p3⟩ := cells4 B3.out))
 go_ret
 exact ⟨rfl, HB.out⟩
set_option maxHeartbeats 4000000 in
set_option maxRecDepth 100000 in
theorem ends_many {W : World} {v : Value} {A0 : Option Addr} {c0 : Nat} {lots : List S44} {A1 : Option Addr} {c1 : Nat} {samples : List Int} {spread : Int} {A3 : Option Addr} {c3 : Nat} {labs : List S62} (h : In26 W v A0 c0 lots A1 c1 samples spread A3 c3 labs) (bits sample value : Int) (hr : Ev (fun k => tensilelaw08_ready.f k lots samples spread labs) true) (hm : 5 < labs.length) :
  Calls Try.prog 8 #[.agg #[.slice A0 lots.length c0, .slice A1 samples.length c1, .int .i64 spread, .slice A3 labs.length c3], .int .u8 bits, .int .u8 sample, .int .u16 value] W (RetB W (.bool true)) := by
 have HI := Aside0.mk h
 have HB := Aside0.mk (below_alloc (Below.refl _ W) (.cells #[.slice A0 lots.length c0, .slice A1 samples.length c1, .int .i64 spread, .slice A3 labs.length c3] 26))
 have B3 := Aside0.mk (blk_new W (.cells #[.slice A0 lots.length c0, .slice A1 samples.length c1, .int .i64 spread, .slice A3 labs.length c3] 26))
 obtain ⟨p0, p1, p2, p3⟩ := cells4 B3.out
 have lt_B3 := blk_lt B3.out
 have HRd := Aside0.mk hr
 clear h hr
 have d0 : decide (5 < labs.length) = true := decide_eq_true hm
 have d1 : decide ((5 : Int) < (labs.length : Int)) = true := decide_eq_true (by omega)
 clear hm
 go_enter Try.func8, Try.ntmps8
 go_wp2_with (first | (go_at_call 35; (with_reducible refine (ready_at (HI.out.below (by repeat (first | (with_reducible exact HB.out) | apply below_alloc | apply pw_below_drewN | apply below_drew1 | refine below_set ?_ (by omega)))) HRd.out).mono ?_); rintro e w1 ⟨rfl, hb⟩; replace HB := Aside0.mk (below_step (by repeat (first | (with_reducible exact HB.out) | apply below_alloc | apply pw_below_drewN | apply below_drew1 | refine below_set ?_ (by omega))) hb); replace B3 := Aside0.mk (blk_below (g := W.heap.size) (o := .cells #[.slice A0 lots.length c0, .slice A1 samples.length c1, .int .i64 spread, .slice A3 labs.length c3] 26 (0, 0)) (by (with_reducible repeat (first | exact B3.out | refine blk_drewN ?_ _ | refine blk_drew ?_ | refine blk_alloc ?_ _))) hb); clear hb; (try clear p0 p1 p2 p3); (try clear lt_B3); have lt_B3 := blk_lt B3.out; obtain ⟨p0, p1, p2, p3⟩ := cells4 B3.out) | (go_at_call 18; (with_reducible refine (wakes_any _).mono ?_); rintro e w9 ⟨rfl, hb⟩; replace HB := Aside0.mk (below_step (by repeat (first | (with_reducible exact HB.out) | apply below_alloc | apply pw_below_drewN | apply below_drew1 | refine below_set ?_ (by omega))) hb); replace B3 := Aside0.mk (blk_below (g := W.heap.size) (o := .cells #[.slice A0 lots.length c0, .slice A1 samples.length c1, .int .i64 spread, .slice A3 labs.length c3] 26 (0, 0)) (by (with_reducible repeat (first | exact B3.out | refine blk_drewN ?_ _ | refine blk_drew ?_ | refine blk_alloc ?_ _))) hb); clear hb; (try clear p0 p1 p2 p3); (try clear lt_B3); have lt_B3 := blk_lt B3.out; obtain ⟨p0, p1, p2, p3⟩ := cells4 B3.out))
 go_ret
 exact ⟨rfl, HB.out⟩
set_option maxHeartbeats 4000000 in
set_option maxRecDepth 100000 in
theorem ends_none {W : World} {v : Value} {A0 : Option Addr} {c0 : Nat} {lots : List S44} {A1 : Option Addr} {c1 : Nat} {samples : List Int} {spread : Int} {A3 : Option Addr} {c3 : Nat} {labs : List S62} (h : In26 W v A0 c0 lots A1 c1 samples spread A3 c3 labs) (bits sample value : Int) (hr : Ev (fun k => tensilelaw08_ready.f k lots samples spread labs) true) (h5 : labs.length ≤ 5) (hm : samples.length = 0) :
  Calls Try.prog 8 #[.agg #[.slice A0 lots.length c0, .slice A1 samples.length c1, .int .i64 spread, .slice A3 labs.length c3], .int .u8 bits, .int .u8 sample, .int .u16 value] W (RetB W (.bool true)) := by
 have HI := Aside0.mk h
 have HB := Aside0.mk (below_alloc (Below.refl _ W) (.cells #[.slice A0 lots.length c0, .slice A1 samples.length c1, .int .i64 spread, .slice A3 labs.length c3] 26))
 have B3 := Aside0.mk (blk_new W (.cells #[.slice A0 lots.length c0, .slice A1 samples.length c1, .int .i64 spread, .slice A3 labs.length c3] 26))
 obtain ⟨p0, p1, p2, p3⟩ := cells4 B3.out
 have lt_B3 := blk_lt B3.out
 have HRd := Aside0.mk hr
 clear h hr
 have d0 : decide (5 < labs.length) = false := decide_eq_false (by omega)
 have d1 : decide ((5 : Int) < (labs.length : Int)) = false := decide_eq_false (by omega)
 have d2 : ((samples.length : Int) == 0) = true := beq_iff_eq.2 (by omega)
 clear hm
 go_enter Try.func8, Try.ntmps8
 go_wp2_with (first | (go_at_call 35; (with_reducible refine (ready_at (HI.out.below (by repeat (first | (with_reducible exact HB.out) | apply below_alloc | apply pw_below_drewN | apply below_drew1 | refine below_set ?_ (by omega)))) HRd.out).mono ?_); rintro e w1 ⟨rfl, hb⟩; replace HB := Aside0.mk (below_step (by repeat (first | (with_reducible exact HB.out) | apply below_alloc | apply pw_below_drewN | apply below_drew1 | refine below_set ?_ (by omega))) hb); replace B3 := Aside0.mk (blk_below (g := W.heap.size) (o := .cells #[.slice A0 lots.length c0, .slice A1 samples.length c1, .int .i64 spread, .slice A3 labs.length c3] 26 (0, 0)) (by (with_reducible repeat (first | exact B3.out | refine blk_drewN ?_ _ | refine blk_drew ?_ | refine blk_alloc ?_ _))) hb); clear hb; (try clear p0 p1 p2 p3); (try clear lt_B3); have lt_B3 := blk_lt B3.out; obtain ⟨p0, p1, p2, p3⟩ := cells4 B3.out) | (go_at_call 18; (with_reducible refine (wakes_any _).mono ?_); rintro e w9 ⟨rfl, hb⟩; replace HB := Aside0.mk (below_step (by repeat (first | (with_reducible exact HB.out) | apply below_alloc | apply pw_below_drewN | apply below_drew1 | refine below_set ?_ (by omega))) hb); replace B3 := Aside0.mk (blk_below (g := W.heap.size) (o := .cells #[.slice A0 lots.length c0, .slice A1 samples.length c1, .int .i64 spread, .slice A3 labs.length c3] 26 (0, 0)) (by (with_reducible repeat (first | exact B3.out | refine blk_drewN ?_ _ | refine blk_drew ?_ | refine blk_alloc ?_ _))) hb); clear hb; (try clear p0 p1 p2 p3); (try clear lt_B3); have lt_B3 := blk_lt B3.out; obtain ⟨p0, p1, p2, p3⟩ := cells4 B3.out))
 go_ret
 exact ⟨rfl, HB.out⟩
def en.T3 : Bool × List (List Nat × List Nat) := (true, [([], []), ([], []), ([0, 1], [0, 1]), ([], []), ([3], [3]), ([], []), ([5], [5]), ([6], [6]), ([4, 7], [4, 7]), ([2, 2, 0, 1, 2], [2]), ([8, 9, 0, 1, 2, 3, 4, 5, 6, 7, 8, 9], [8])])
def en.B3 : List Nat := [0, 0, 3, 0, 8, 0, 32, 96, 248, 7, 1023]
theorem en.tab3 : rtab .any (opsOf Try.f8 3) = en.T3 := by kernel_rfl
theorem en.bits3 : waitsOk en.T3.2 en.B3 = true := by kernel_rfl
def en.T9 : Bool × List (List Nat × List Nat) := (true, [([], []), ([], []), ([0, 1], [0, 1]), ([2], [2]), ([3], [3]), ([], []), ([], []), ([5, 6], [5, 6]), ([7], [7]), ([8], [8]), ([], []), ([], []), ([10, 11], [10, 11]), ([12], [12]), ([13], [13]), ([14], [14]), ([], []), ([], []), ([16, 17], [16, 17]), ([18], [18]), ([19], [19]), ([20], [20]), ([], []), ([22], [22]), ([23], [23]), ([4, 9, 15, 21, 24], [4, 9, 15, 21, 24]), ([], []), ([26, 25, 0, 1, 2, 3, 4, 5, 6, 7, 8, 9, 10, 11, 12, 13, 14, 15, 16, 17, 18, 19, 20, 21, 22, 23, 24, 25, 26], [25, 26])])
def en.B9 : List Nat := [0, 0, 3, 7, 15, 0, 0, 96, 224, 480, 0, 0, 3072, 7168, 15360, 31744, 0, 0, 196608, 458752, 983040, 2031616, 0, 4194304, 12582912, 33554431, 0, 134217727]
theorem en.tab9 : rtab .any (opsOf Try.f8 9) = en.T9 := by kernel_rfl
theorem en.bits9 : waitsOk en.T9.2 en.B9 = true := by kernel_rfl
def en.T22 : Bool × List (List Nat × List Nat) := (true, [([], []), ([], []), ([1], [1]), ([0, 2], [0, 2]), ([], []), ([4], [4]), ([3, 5, 3], [3, 5]), ([0, 1, 2, 3, 4, 5, 6], []), ([7, 6, 6, 0, 1, 2, 3, 4, 5, 6], [6, 7])])
def en.B22 : List Nat := [0, 0, 2, 7, 0, 16, 63, 127, 255]
theorem en.tab22 : rtab .any (opsOf Try.f8 22) = en.T22 := by kernel_rfl
theorem en.bits22 : waitsOk en.T22.2 en.B22 = true := by kernel_rfl
def en.T24 : Bool × List (List Nat × List Nat) := (true, [([], []), ([0], [0]), ([1], [1]), ([2], [2]), ([2], [2]), ([2], [2]), ([2], [2]), ([5, 6, 2], [2, 5, 6]), ([7, 2], [2, 7]), ([8, 2], [2, 8]), ([2], [2]), ([2], [2]), ([10, 11, 2], [2, 10, 11]), ([12, 2], [2, 12]), ([13, 2], [2, 13]), ([4, 9, 14, 2, 2], [2, 4, 9, 14]), ([3, 15, 2], [2, 3, 15]), ([2, 16], [2, 16])])
def en.B24 : List Nat := [0, 1, 3, 7, 7, 7, 7, 103, 231, 487, 7, 7, 3079, 7175, 15367, 32759, 65535, 131071]
theorem en.tab24 : rtab .any (opsOf Try.f8 24) = en.T24 := by kernel_rfl
theorem en.bits24 : waitsOk en.T24.2 en.B24 = true := by kernel_rfl
set_option maxHeartbeats 4000000 in
set_option maxRecDepth 100000 in
theorem ends_fail {W : World} {v : Value} {A0 : Option Addr} {c0 : Nat} {lots : List S44} {A1 : Option Addr} {c1 : Nat} {samples : List Int} {spread : Int} {A3 : Option Addr} {c3 : Nat} {labs : List S62} (h : In26 W v A0 c0 lots A1 c1 samples spread A3 c3 labs) (bits sample value : Int) (hr : Ev (fun k => tensilelaw08_ready.f k lots samples spread labs) true) (hth : ThinR lots samples labs) (h5 : labs.length ≤ 5) (hs0 : 0 ≤ sample) (hs1 : sample < 256) (hv0 : 0 ≤ value) (hv1 : value < 65536) (kn : Nat) (hK : kn < samples.length) (hk : Int.tmod sample (samples.length : Int) = (kn : Int)) (off : List Int) (hof : chosenF labs.length bits = off) (hol : off.length ≤ 6) (hsp : spansR (lots.map m46) samples spread (labs.map m75) off = ([], 9)) :
  Calls Try.prog 8 #[.agg #[.slice A0 lots.length c0, .slice A1 samples.length c1, .int .i64 spread, .slice A3 labs.length c3], .int .u8 bits, .int .u8 sample, .int .u16 value] W (RetB W (.bool true)) := by
 have HI := Aside0.mk h
 have HB := Aside0.mk (below_alloc (Below.refl _ W) (.cells #[.slice A0 lots.length c0, .slice A1 samples.length c1, .int .i64 spread, .slice A3 labs.length c3] 26))
 have B3 := Aside0.mk (blk_new W (.cells #[.slice A0 lots.length c0, .slice A1 samples.length c1, .int .i64 spread, .slice A3 labs.length c3] 26))
 obtain ⟨p0, p1, p2, p3⟩ := cells4 B3.out
 have lt_B3 := blk_lt B3.out
 have HRd := Aside0.mk hr
 have HTh := Aside0.mk hth
 have HOf := Aside0.mk hof
 have HS := Aside0.mk hsp
 have h6 : labs.length ≤ 6 := by omega
 have hln : off.length < 17592186044416 := by omega
 have e1 : IntKind.i64.wrap sample = sample := IntWalk.i64_in _ (by omega)
 have d0 : decide (5 < labs.length) = false := decide_eq_false (by omega)
 have d1 : decide ((5 : Int) < (labs.length : Int)) = false := decide_eq_false (by omega)
 have d2 : ((samples.length : Int) == 0) = false := beq_eq_false_iff_ne.2 (by omega)
 have d3_ : ¬ (samples = []) := fun h_ => by rw [h_] at hK; exact absurd hK (Nat.not_lt_zero _)
 clear h hr hth hof hsp
 go_enter Try.func8, Try.ntmps8
 go_upto_region 3 with (first | (go_at_call 35; (with_reducible refine (ready_at (HI.out.below (by repeat (first | (with_reducible exact HB.out) | apply below_alloc | apply pw_below_drewN | apply below_drew1 | refine below_set ?_ (by omega)))) HRd.out).mono ?_); rintro e w1 ⟨rfl, hb⟩; replace HB := Aside0.mk (below_step (by repeat (first | (with_reducible exact HB.out) | apply below_alloc | apply pw_below_drewN | apply below_drew1 | refine below_set ?_ (by omega))) hb); replace B3 := Aside0.mk (blk_below (g := W.heap.size) (o := .cells #[.slice A0 lots.length c0, .slice A1 samples.length c1, .int .i64 spread, .slice A3 labs.length c3] 26 (0, 0)) (by (with_reducible repeat (first | exact B3.out | refine blk_drewN ?_ _ | refine blk_drew ?_ | refine blk_alloc ?_ _))) hb); clear hb; (try clear p0 p1 p2 p3); (try clear lt_B3); have lt_B3 := blk_lt B3.out; obtain ⟨p0, p1, p2, p3⟩ := cells4 B3.out))
 refine start_ (n := 11) (S := fun w' => w'.cell? ⟨W.heap.size, 0, none⟩ = some (.slice A0 lots.length c0) ∧ w'.cell? ⟨W.heap.size, 1, none⟩ = some (.slice A1 samples.length c1) ∧ w'.cell? ⟨W.heap.size, 2, none⟩ = some (.int .i64 spread) ∧ w'.cell? ⟨W.heap.size, 3, none⟩ = some (.slice A3 labs.length c3)) (ds := []) #[false, false, false, false, false, false, false, false, false, false, false] (by kernel_rfl) rfl rfl ⟨(blk_cell (blk_drew B3.out) 0).trans rfl, (blk_cell (blk_drew B3.out) 1).trans rfl, (blk_cell (blk_drew B3.out) 2).trans rfl, (blk_cell (blk_drew B3.out) 3).trans rfl⟩ (fun hHeld => ?_)
 refine with_tabW en.tab3 en.bits3 (fun HT_ HW_ => ?_)
 replace B3 := Aside0.mk (blk_drew B3.out)
 replace HB := Aside0.mk (below_drew1 HB.out)
 clear p0 p1 p2 p3 lt_B3
 generalize w1.drew = w2 at B3 HB hHeld ⊢
 refine pure_ (i := 1) (N := some 38) (v := ?_) (a' := ?_) #[false, true, false, false, false, false, false, false, false, false, false] rfl rfl (any_of HT_.out (by kernel_rfl)) (fun _ _ _ h => h) (Or.inl ⟨by rfl, ?_⟩) ?_ ?_
 rotate_left
 ·intro w'
  go_simp
  with_reducible rfl
 rotate_left
 ·simp only [Act.put, List.setIfInBounds_toArray, List.set_cons_zero, List.set_cons_succ, i64_w, i32_w]
  rfl
 refine pure_ (i := 3) (N := some 40) (v := ?_) (a' := ?_) #[false, true, false, true, false, false, false, false, false, false, false] rfl rfl (any_of HT_.out (by kernel_rfl)) (fun _ _ _ h => h) (Or.inl ⟨by rfl, ?_⟩) ?_ ?_
 rotate_left
 ·intro w'
  go_simp
  with_reducible rfl
 rotate_left
 ·simp only [Act.put, List.setIfInBounds_toArray, List.set_cons_zero, List.set_cons_succ, i64_w, i32_w]
  rfl
 refine pure_ (i := 4) (N := some 41) (v := ?_) (a' := ?_) #[false, true, false, true, true, false, false, false, false, false, false] rfl rfl (any_of HT_.out (by kernel_rfl)) (fun _ _ _ h => h) (Or.inl ⟨by rfl, ?_⟩) ?_ ?_
 rotate_left
 ·intro w'
  go_simp
  with_reducible rfl
 rotate_left
 ·simp only [Act.put, List.setIfInBounds_toArray, List.set_cons_zero, List.set_cons_succ, i64_w, i32_w]
  rfl
 refine pure_ (i := 5) (N := some 42) (v := ?_) (a' := ?_) #[false, true, false, true, true, true, false, false, false, false, false] rfl rfl (any_of HT_.out (by kernel_rfl)) (fun _ _ _ h => h) (Or.inl ⟨by rfl, ?_⟩) ?_ ?_
 rotate_left
 ·intro w'
  go_simp
  with_reducible rfl
 rotate_left
 ·simp only [Act.put, List.setIfInBounds_toArray, List.set_cons_zero, List.set_cons_succ, i64_w, i32_w]
  rfl
 refine take_ (i := 0) (N := some 37) (v := ?_) (a' := ?_) #[true, true, false, true, true, true, false, false, false, false, false] rfl rfl (take_ofW HT_.out HW_.out (by kernel_rfl)) (fun _ _ _ h => h) (Or.inl ⟨by rfl, ?_⟩) hHeld ?_ ?_
 rotate_left
 ·rintro w' ⟨s0, s1, s2, s3⟩
  go_simp
  with_reducible rfl
 rotate_left
 ·simp only [Act.put, List.setIfInBounds_toArray, List.set_cons_zero, List.set_cons_succ, i64_w, i32_w]
  rfl
 refine take_ (i := 6) (N := some 43) (v := ?_) (a' := ?_) #[true, true, false, true, true, true, true, false, false, false, false] rfl rfl (take_ofW HT_.out HW_.out (by kernel_rfl)) (fun _ _ _ h => h) (Or.inl ⟨by rfl, ?_⟩) hHeld ?_ ?_
 rotate_left
 ·rintro w' ⟨s0, s1, s2, s3⟩
  go_simp
  with_reducible rfl
 rotate_left
 ·simp only [Act.put, List.setIfInBounds_toArray, List.set_cons_zero, List.set_cons_succ, i64_w, i32_w]
  rfl
 refine pure_ (i := 7) (N := some 44) (v := ?_) (a' := ?_) #[true, true, false, true, true, true, true, true, false, false, false] rfl rfl (any_of HT_.out (by kernel_rfl)) (fun _ _ _ h => h) (Or.inl ⟨by rfl, ?_⟩) ?_ ?_
 rotate_left
 ·intro w'
  go_simp
  with_reducible rfl
 rotate_left
 ·simp only [Act.put, List.setIfInBounds_toArray, List.set_cons_zero, List.set_cons_succ, i64_w, i32_w]
  rfl
 refine pure_ (i := 8) (N := some 45) (v := ?_) (a' := ?_) #[true, true, false, true, true, true, true, true, true, false, false] rfl rfl (any_of HT_.out (by kernel_rfl)) (fun _ _ _ h => h) (Or.inl ⟨by rfl, ?_⟩) ?_ ?_
 rotate_left
 ·intro w'
  go_simp
  with_reducible rfl
 rotate_left
 ·simp only [Act.put, List.setIfInBounds_toArray, List.set_cons_zero, List.set_cons_succ, i64_w, i32_w]
  rfl
 refine one_ (i := 2) (N := some 39) #[true, true, true, true, true, true, true, true, true, false, false] rfl rfl (one_of HT_.out (by kernel_rfl)) (by decide) (fun K hK => ?_)
 refine goes_ Try.func36 (by kernel_rfl) rfl #[.agg #[.slice A0 lots.length c0, .slice A1 samples.length c1, .int .i64 spread, .slice A3 labs.length c3], .int .u8 bits] (by rfl) rfl rfl (by simp only [List.map_toArray, List.map_cons, List.map_nil]; rfl) ?_
 with_reducible refine (chosen_at (HI.out.below HB.out) h6 bits).mono ?_
 rintro e w3 ⟨_, rfl, hOff, hb⟩
 refine ⟨_, rfl, ?_⟩
 rw [HOf.out] at hOff
 obtain ⟨Ao, co, rfl, hco, hOff⟩ := hOff
 replace HB := Aside0.mk (below_step HB.out hb)
 replace B3 := Aside0.mk (blk_below (g := W.heap.size) (o := .cells #[.slice A0 lots.length c0, .slice A1 samples.length c1, .int .i64 spread, .slice A3 labs.length c3] 26 (0, 0)) B3.out hb)
 have HOff := Aside0.mk hOff
 clear hb hOff
 refine hK.out _ _ ⟨(blk_cell B3.out 0).trans rfl, (blk_cell B3.out 1).trans rfl, (blk_cell B3.out 2).trans rfl, (blk_cell B3.out 3).trans rfl⟩ (fun hHeld => ?_)
 clear hK K
 refine norm_ (a' := ?_) ?_ ?_
 rotate_left
 ·show Act.put _ (some 39) _ = _
  simp only [Act.put, List.setIfInBounds_toArray, List.set_cons_zero, List.set_cons_succ, i64_w, i32_w]
  rfl
 refine pure_ (i := 9) (N := some 9) (v := ?_) (a' := ?_) #[true, true, true, true, true, true, true, true, true, true, false] rfl rfl (any_of HT_.out (by kernel_rfl)) (fun _ _ _ h => h) (Or.inl ⟨by rfl, ?_⟩) ?_ ?_
 rotate_left
 ·intro w'
  go_simp
  with_reducible rfl
 rotate_left
 ·simp only [Act.put, List.setIfInBounds_toArray, List.set_cons_zero, List.set_cons_succ, i64_w, i32_w]
  rfl
 refine pure_ (i := 10) (N := some 10) (v := ?_) (a' := ?_) #[true, true, true, true, true, true, true, true, true, true, true] rfl rfl (any_of HT_.out (by kernel_rfl)) (fun _ _ _ h => h) (Or.inl ⟨by rfl, ?_⟩) ?_ ?_
 rotate_left
 ·intro w'
  go_simp
  with_reducible rfl
 rotate_left
 ·simp only [Act.put, List.setIfInBounds_toArray, List.set_cons_zero, List.set_cons_succ, i64_w, i32_w]
  rfl
 refine done_ (done_of HT_.out (by kernel_rfl)) ?_
 obtain ⟨p0, p1, p2, p3⟩ := cells4 B3.out
 have lt_B3 := blk_lt B3.out
 go_wp2_with (first | (go_at_call 20; (with_reducible refine (round_at (HI.out.below (by repeat (first | (with_reducible exact HB.out) | apply below_alloc | apply pw_below_drewN | apply below_drew1 | refine below_set ?_ (by omega)))) HTh.out).mono ?_); rintro e w4 ⟨u, rfl, hu, hb⟩; replace HB := Aside0.mk (below_step (by repeat (first | (with_reducible exact HB.out) | apply below_alloc | apply pw_below_drewN | apply below_drew1 | refine below_set ?_ (by omega))) hb); replace B3 := Aside0.mk (blk_below (g := W.heap.size) (o := .cells #[.slice A0 lots.length c0, .slice A1 samples.length c1, .int .i64 spread, .slice A3 labs.length c3] 26 (0, 0)) (by (with_reducible repeat (first | exact B3.out | refine blk_drewN ?_ _ | refine blk_drew ?_ | refine blk_alloc ?_ _))) hb); (try replace HOff := Aside0.mk (Kd.C_below HOff.out (below_step (by repeat (first | (with_reducible exact Below.refl _ _) | apply below_alloc | apply pw_below_drewN | apply below_drew1)) hb))); (try replace HU := Aside0.mk (HU.out.below (below_step (by repeat (first | (with_reducible exact Below.refl _ _) | apply below_alloc | apply pw_below_drewN | apply below_drew1)) hb))); (try replace HL := Aside0.mk (HL.out.below (below_step (by repeat (first | (with_reducible exact Below.refl _ _) | apply below_alloc | apply pw_below_drewN | apply below_drew1)) hb))); clear hb; have HU := Aside0.mk hu; clear hu; (try clear p0 p1 p2 p3); (try clear lt_B3); have lt_B3 := blk_lt B3.out; obtain ⟨p0, p1, p2, p3⟩ := cells4 B3.out) | (go_at_call 22; (with_reducible refine (list_at (inL_mk4 hco (Kd.C_below HOff.out (by repeat (first | (with_reducible exact Below.refl _ _) | apply below_alloc | apply pw_below_drewN | apply below_drew1)))) hln).mono ?_); rintro e w5 ⟨y, rfl, hy, hb⟩; replace HB := Aside0.mk (below_step (by repeat (first | (with_reducible exact HB.out) | apply below_alloc | apply pw_below_drewN | apply below_drew1 | refine below_set ?_ (by omega))) hb); replace B3 := Aside0.mk (blk_below (g := W.heap.size) (o := .cells #[.slice A0 lots.length c0, .slice A1 samples.length c1, .int .i64 spread, .slice A3 labs.length c3] 26 (0, 0)) (by (with_reducible repeat (first | exact B3.out | refine blk_drewN ?_ _ | refine blk_drew ?_ | refine blk_alloc ?_ _))) hb); (try replace HOff := Aside0.mk (Kd.C_below HOff.out (below_step (by repeat (first | (with_reducible exact Below.refl _ _) | apply below_alloc | apply pw_below_drewN | apply below_drew1)) hb))); (try replace HU := Aside0.mk (HU.out.below (below_step (by repeat (first | (with_reducible exact Below.refl _ _) | apply below_alloc | apply pw_below_drewN | apply below_drew1)) hb))); (try replace HL := Aside0.mk (HL.out.below (below_step (by repeat (first | (with_reducible exact Below.refl _ _) | apply below_alloc | apply pw_below_drewN | apply below_drew1)) hb))); clear hb; have HL := Aside0.mk hy; clear hy; (try clear p0 p1 p2 p3); (try clear lt_B3); have lt_B3 := blk_lt B3.out; obtain ⟨p0, p1, p2, p3⟩ := cells4 B3.out) | (go_at_call 26; (with_reducible refine (spans_at (HU.out.below (by repeat (first | (with_reducible exact Below.refl _ _) | apply below_alloc | apply pw_below_drewN | apply below_drew1))) (HL.out.below (by repeat (first | (with_reducible exact Below.refl _ _) | apply below_alloc | apply pw_below_drewN | apply below_drew1))) hln).mono ?_); (rw [HS.out]); rintro e w6 ⟨_, rfl, ⟨As, cs, rfl, hcs, hSp⟩, hb⟩; clear HU HL; replace HB := Aside0.mk (below_step (by repeat (first | (with_reducible exact HB.out) | apply below_alloc | apply pw_below_drewN | apply below_drew1 | refine below_set ?_ (by omega))) hb); replace B3 := Aside0.mk (blk_below (g := W.heap.size) (o := .cells #[.slice A0 lots.length c0, .slice A1 samples.length c1, .int .i64 spread, .slice A3 labs.length c3] 26 (0, 0)) (by (with_reducible repeat (first | exact B3.out | refine blk_drewN ?_ _ | refine blk_drew ?_ | refine blk_alloc ?_ _))) hb); (try replace HOff := Aside0.mk (Kd.C_below HOff.out (below_step (by repeat (first | (with_reducible exact Below.refl _ _) | apply below_alloc | apply pw_below_drewN | apply below_drew1)) hb))); clear hb; (try clear p0 p1 p2 p3); (try clear lt_B3); have lt_B3 := blk_lt B3.out; obtain ⟨p0, p1, p2, p3⟩ := cells4 B3.out) | (go_at_call 18; (with_reducible refine (wakes_any _).mono ?_); rintro e w9 ⟨rfl, hb⟩; replace HB := Aside0.mk (below_step (by repeat (first | (with_reducible exact HB.out) | apply below_alloc | apply pw_below_drewN | apply below_drew1 | refine below_set ?_ (by omega))) hb); replace B3 := Aside0.mk (blk_below (g := W.heap.size) (o := .cells #[.slice A0 lots.length c0, .slice A1 samples.length c1, .int .i64 spread, .slice A3 labs.length c3] 26 (0, 0)) (by (with_reducible repeat (first | exact B3.out | refine blk_drewN ?_ _ | refine blk_drew ?_ | refine blk_alloc ?_ _))) hb); clear hb; (try clear p0 p1 p2 p3); (try clear lt_B3); have lt_B3 := blk_lt B3.out; obtain ⟨p0, p1, p2, p3⟩ := cells4 B3.out))
 go_ret
 exact ⟨rfl, HB.out⟩
set_option maxHeartbeats 4000000 in
set_option maxRecDepth 100000 in
theorem ends_at {W : World} {v : Value} {A0 : Option Addr} {c0 : Nat} {lots : List S44} {A1 : Option Addr} {c1 : Nat} {samples : List Int} {spread : Int} {A3 : Option Addr} {c3 : Nat} {labs : List S62} (h : In26 W v A0 c0 lots A1 c1 samples spread A3 c3 labs) (bits sample value : Int) (hr : Ev (fun k => tensilelaw08_ready.f k lots samples spread labs) true) (hth : ThinR lots samples labs) (h5 : labs.length ≤ 5) (hs0 : 0 ≤ sample) (hs1 : sample < 256) (hv0 : 0 ≤ value) (hv1 : value < 65536) (kn : Nat) (hK : kn < samples.length) (hk : Int.tmod sample (samples.length : Int) = (kn : Int)) (off : List Int) (hof : chosenF labs.length bits = off) (hol : off.length ≤ 6) (hok : RoundOk (lots.map m46) samples spread (labs.map m75)) (sp : List S46) (hsp : spansR (lots.map m46) samples spread (labs.map m75) off = (sp, 0)) (hsl1 : sp.length ≤ samples.length) (hsl2 : samples.length ≤ sp.length) (lo hi : Int) (hlo : (rd_T46 sp (kn : Int)).f0 = lo) (hhi : (rd_T46 sp (kn : Int)).f1 = hi) (hb0 : -5000 ≤ lo) (hb1 : lo ≤ 5000) (hb2 : -5000 ≤ hi) (hb3 : hi ≤ 5000) (hfin : ∀ n : Int, 0 ≤ n → n ≤ 1000 → ThinR lots samples (labs ++ [(⟨0, oneRead samples.length kn n⟩ : S62)]) ∧ explainsF (lots.map m46) samples spread ((labs ++ [(⟨0, oneRead samples.length kn n⟩ : S62)]).map m75) off = (withinB n lo hi, 0)) :
  Calls Try.prog 8 #[.agg #[.slice A0 lots.length c0, .slice A1 samples.length c1, .int .i64 spread, .slice A3 labs.length c3], .int .u8 bits, .int .u8 sample, .int .u16 value] W (RetB W (.bool true)) := by
 have HI := Aside0.mk h
 have HB := Aside0.mk (below_alloc (Below.refl _ W) (.cells #[.slice A0 lots.length c0, .slice A1 samples.length c1, .int .i64 spread, .slice A3 labs.length c3] 26))
 have B3 := Aside0.mk (blk_new W (.cells #[.slice A0 lots.length c0, .slice A1 samples.length c1, .int .i64 spread, .slice A3 labs.length c3] 26))
 obtain ⟨p0, p1, p2, p3⟩ := cells4 B3.out
 have lt_B3 := blk_lt B3.out
 have HFin := Aside0.mk hfin
 have HOk := Aside0.mk hok
 obtain ⟨rb, hbl, hbC, hbK⟩ := raw_C' h.r3
 have HBC := Aside0.mk hbC
 have HBK := Aside0.mk hbK
 have HBL := Aside0.mk hbl
 clear hbC hbK hbl hfin hok
 have HRd := Aside0.mk hr
 have HTh := Aside0.mk hth
 have HOf := Aside0.mk hof
 have HS := Aside0.mk hsp
 have h6 : labs.length ≤ 6 := by omega
 have hln : off.length < 17592186044416 := by omega
 have e1 : IntKind.i64.wrap sample = sample := IntWalk.i64_in _ (by omega)
 have d0 : decide (5 < labs.length) = false := decide_eq_false (by omega)
 have d1 : decide ((5 : Int) < (labs.length : Int)) = false := decide_eq_false (by omega)
 have d2 : ((samples.length : Int) == 0) = false := beq_eq_false_iff_ne.2 (by omega)
 have d3_ : ¬ (samples = []) := fun h_ => by rw [h_] at hK; exact absurd hK (Nat.not_lt_zero _)
 clear h hr hth hof hsp
 go_enter Try.func8, Try.ntmps8
 go_upto_region 3 with (first | (go_at_call 35; (with_reducible refine (ready_at (HI.out.below (by repeat (first | (with_reducible exact HB.out) | apply below_alloc | apply pw_below_drewN | apply below_drew1 | refine below_set ?_ (by omega)))) HRd.out).mono ?_); rintro e w1 ⟨rfl, hb⟩; replace HB := Aside0.mk (below_step (by repeat (first | (with_reducible exact HB.out) | apply below_alloc | apply pw_below_drewN | apply below_drew1 | refine below_set ?_ (by omega))) hb); replace B3 := Aside0.mk (blk_below (g := W.heap.size) (o := .cells #[.slice A0 lots.length c0, .slice A1 samples.length c1, .int .i64 spread, .slice A3 labs.length c3] 26 (0, 0)) (by (with_reducible repeat (first | exact B3.out | refine blk_drewN ?_ _ | refine blk_drew ?_ | refine blk_alloc ?_ _))) hb); clear hb; (try clear p0 p1 p2 p3); (try clear lt_B3); have lt_B3 := blk_lt B3.out; obtain ⟨p0, p1, p2, p3⟩ := cells4 B3.out))
 refine start_ (n := 11) (S := fun w' => w'.cell? ⟨W.heap.size, 0, none⟩ = some (.slice A0 lots.length c0) ∧ w'.cell? ⟨W.heap.size, 1, none⟩ = some (.slice A1 samples.length c1) ∧ w'.cell? ⟨W.heap.size, 2, none⟩ = some (.int .i64 spread) ∧ w'.cell? ⟨W.heap.size, 3, none⟩ = some (.slice A3 labs.length c3)) (ds := []) #[false, false, false, false, false, false, false, false, false, false, false] (by kernel_rfl) rfl rfl ⟨(blk_cell (blk_drew B3.out) 0).trans rfl, (blk_cell (blk_drew B3.out) 1).trans rfl, (blk_cell (blk_drew B3.out) 2).trans rfl, (blk_cell (blk_drew B3.out) 3).trans rfl⟩ (fun hHeld => ?_)
 refine with_tabW en.tab3 en.bits3 (fun HT_ HW_ => ?_)
 replace B3 := Aside0.mk (blk_drew B3.out)
 replace HB := Aside0.mk (below_drew1 HB.out)
 clear p0 p1 p2 p3 lt_B3
 generalize w1.drew = w2 at B3 HB hHeld ⊢
 refine pure_ (i := 1) (N := some 38) (v := ?_) (a' := ?_) #[false, true, false, false, false, false, false, false, false, false, false] rfl rfl (any_of HT_.out (by kernel_rfl)) (fun _ _ _ h => h) (Or.inl ⟨by rfl, ?_⟩) ?_ ?_
 rotate_left
 ·intro w'
  go_simp
  with_reducible rfl
 rotate_left
 ·simp only [Act.put, List.setIfInBounds_toArray, List.set_cons_zero, List.set_cons_succ, i64_w, i32_w]
  rfl
 refine pure_ (i := 3) (N := some 40) (v := ?_) (a' := ?_) #[false, true, false, true, false, false, false, false, false, false, false] rfl rfl (any_of HT_.out (by kernel_rfl)) (fun _ _ _ h => h) (Or.inl ⟨by rfl, ?_⟩) ?_ ?_
 rotate_left
 ·intro w'
  go_simp
  with_reducible rfl
 rotate_left
 ·simp only [Act.put, List.setIfInBounds_toArray, List.set_cons_zero, List.set_cons_succ, i64_w, i32_w]
  rfl
 refine pure_ (i := 4) (N := some 41) (v := ?_) (a' := ?_) #[false, true, false, true, true, false, false, false, false, false, false] rfl rfl (any_of HT_.out (by kernel_rfl)) (fun _ _ _ h => h) (Or.inl ⟨by rfl, ?_⟩) ?_ ?_
 rotate_left
 ·intro w'
  go_simp
  with_reducible rfl
 rotate_left
 ·simp only [Act.put, List.setIfInBounds_toArray, List.set_cons_zero, List.set_cons_succ, i64_w, i32_w]
  rfl
 refine pure_ (i := 5) (N := some 42) (v := ?_) (a' := ?_) #[false, true, false, true, true, true, false, false, false, false, false] rfl rfl (any_of HT_.out (by kernel_rfl)) (fun _ _ _ h => h) (Or.inl ⟨by rfl, ?_⟩) ?_ ?_
 rotate_left
 ·intro w'
  go_simp
  with_reducible rfl
 rotate_left
 ·simp only [Act.put, List.setIfInBounds_toArray, List.set_cons_zero, List.set_cons_succ, i64_w, i32_w]
  rfl
 refine take_ (i := 0) (N := some 37) (v := ?_) (a' := ?_) #[true, true, false, true, true, true, false, false, false, false, false] rfl rfl (take_ofW HT_.out HW_.out (by kernel_rfl)) (fun _ _ _ h => h) (Or.inl ⟨by rfl, ?_⟩) hHeld ?_ ?_
 rotate_left
 ·rintro w' ⟨s0, s1, s2, s3⟩
  go_simp
  with_reducible rfl
 rotate_left
 ·simp only [Act.put, List.setIfInBounds_toArray, List.set_cons_zero, List.set_cons_succ, i64_w, i32_w]
  rfl
 refine take_ (i := 6) (N := some 43) (v := ?_) (a' := ?_) #[true, true, false, true, true, true, true, false, false, false, false] rfl rfl (take_ofW HT_.out HW_.out (by kernel_rfl)) (fun _ _ _ h => h) (Or.inl ⟨by rfl, ?_⟩) hHeld ?_ ?_
 rotate_left
 ·rintro w' ⟨s0, s1, s2, s3⟩
  go_simp
  with_reducible rfl
 rotate_left
 ·simp only [Act.put, List.setIfInBounds_toArray, List.set_cons_zero, List.set_cons_succ, i64_w, i32_w]
  rfl
 refine pure_ (i := 7) (N := some 44) (v := ?_) (a' := ?_) #[true, true, false, true, true, true, true, true, false, false, false] rfl rfl (any_of HT_.out (by kernel_rfl)) (fun _ _ _ h => h) (Or.inl ⟨by rfl, ?_⟩) ?_ ?_
 rotate_left
 ·intro w'
  go_simp
  with_reducible rfl
 rotate_left
 ·simp only [Act.put, List.setIfInBounds_toArray, List.set_cons_zero, List.set_cons_succ, i64_w, i32_w]
  rfl
 refine pure_ (i := 8) (N := some 45) (v := ?_) (a' := ?_) #[true, true, false, true, true, true, true, true, true, false, false] rfl rfl (any_of HT_.out (by kernel_rfl)) (fun _ _ _ h => h) (Or.inl ⟨by rfl, ?_⟩) ?_ ?_
 rotate_left
 ·intro w'
  go_simp
  with_reducible rfl
 rotate_left
 ·simp only [Act.put, List.setIfInBounds_toArray, List.set_cons_zero, List.set_cons_succ, i64_w, i32_w]
  rfl
 refine one_ (i := 2) (N := some 39) #[true, true, true, true, true, true, true, true, true, false, false] rfl rfl (one_of HT_.out (by kernel_rfl)) (by decide) (fun K hK => ?_)
 refine goes_ Try.func36 (by kernel_rfl) rfl #[.agg #[.slice A0 lots.length c0, .slice A1 samples.length c1, .int .i64 spread, .slice A3 labs.length c3], .int .u8 bits] (by rfl) rfl rfl (by simp only [List.map_toArray, List.map_cons, List.map_nil]; rfl) ?_
 with_reducible refine (chosen_at (HI.out.below HB.out) h6 bits).mono ?_
 rintro e w3 ⟨_, rfl, hOff, hb⟩
 refine ⟨_, rfl, ?_⟩
 rw [HOf.out] at hOff
 obtain ⟨Ao, co, rfl, hco, hOff⟩ := hOff
 replace HB := Aside0.mk (below_step HB.out hb)
 replace B3 := Aside0.mk (blk_below (g := W.heap.size) (o := .cells #[.slice A0 lots.length c0, .slice A1 samples.length c1, .int .i64 spread, .slice A3 labs.length c3] 26 (0, 0)) B3.out hb)
 have HOff := Aside0.mk hOff
 clear hb hOff
 refine hK.out _ _ ⟨(blk_cell B3.out 0).trans rfl, (blk_cell B3.out 1).trans rfl, (blk_cell B3.out 2).trans rfl, (blk_cell B3.out 3).trans rfl⟩ (fun hHeld => ?_)
 clear hK K
 refine norm_ (a' := ?_) ?_ ?_
 rotate_left
 ·show Act.put _ (some 39) _ = _
  simp only [Act.put, List.setIfInBounds_toArray, List.set_cons_zero, List.set_cons_succ, i64_w, i32_w]
  rfl
 refine pure_ (i := 9) (N := some 9) (v := ?_) (a' := ?_) #[true, true, true, true, true, true, true, true, true, true, false] rfl rfl (any_of HT_.out (by kernel_rfl)) (fun _ _ _ h => h) (Or.inl ⟨by rfl, ?_⟩) ?_ ?_
 rotate_left
 ·intro w'
  go_simp
  with_reducible rfl
 rotate_left
 ·simp only [Act.put, List.setIfInBounds_toArray, List.set_cons_zero, List.set_cons_succ, i64_w, i32_w]
  rfl
 refine pure_ (i := 10) (N := some 10) (v := ?_) (a' := ?_) #[true, true, true, true, true, true, true, true, true, true, true] rfl rfl (any_of HT_.out (by kernel_rfl)) (fun _ _ _ h => h) (Or.inl ⟨by rfl, ?_⟩) ?_ ?_
 rotate_left
 ·intro w'
  go_simp
  with_reducible rfl
 rotate_left
 ·simp only [Act.put, List.setIfInBounds_toArray, List.set_cons_zero, List.set_cons_succ, i64_w, i32_w]
  rfl
 refine done_ (done_of HT_.out (by kernel_rfl)) ?_
 obtain ⟨p0, p1, p2, p3⟩ := cells4 B3.out
 have lt_B3 := blk_lt B3.out
 have hf1 : ((sp.length : Int) != (samples.length : Int)) = false := bne_eq_false_iff_eq.2 (by omega)
 go_upto_region 9 with (first | (go_at_call 20; (with_reducible refine (round_at (HI.out.below (by repeat (first | (with_reducible exact HB.out) | apply below_alloc | apply pw_below_drewN | apply below_drew1 | refine below_set ?_ (by omega)))) HTh.out).mono ?_); rintro e w4 ⟨u, rfl, hu, hb⟩; replace HB := Aside0.mk (below_step (by repeat (first | (with_reducible exact HB.out) | apply below_alloc | apply pw_below_drewN | apply below_drew1 | refine below_set ?_ (by omega))) hb); replace B3 := Aside0.mk (blk_below (g := W.heap.size) (o := .cells #[.slice A0 lots.length c0, .slice A1 samples.length c1, .int .i64 spread, .slice A3 labs.length c3] 26 (0, 0)) (by (with_reducible repeat (first | exact B3.out | refine blk_drewN ?_ _ | refine blk_drew ?_ | refine blk_alloc ?_ _))) hb); (try replace HOff := Aside0.mk (Kd.C_below HOff.out (below_step (by repeat (first | (with_reducible exact Below.refl _ _) | apply below_alloc | apply pw_below_drewN | apply below_drew1)) hb))); (try replace HU := Aside0.mk (HU.out.below (below_step (by repeat (first | (with_reducible exact Below.refl _ _) | apply below_alloc | apply pw_below_drewN | apply below_drew1)) hb))); (try replace HL := Aside0.mk (HL.out.below (below_step (by repeat (first | (with_reducible exact Below.refl _ _) | apply below_alloc | apply pw_below_drewN | apply below_drew1)) hb))); clear hb; have HU := Aside0.mk hu; clear hu; (try clear p0 p1 p2 p3); (try clear lt_B3); have lt_B3 := blk_lt B3.out; obtain ⟨p0, p1, p2, p3⟩ := cells4 B3.out) | (go_at_call 22; (with_reducible refine (list_at (inL_mk4 hco (Kd.C_below HOff.out (by repeat (first | (with_reducible exact Below.refl _ _) | apply below_alloc | apply pw_below_drewN | apply below_drew1)))) hln).mono ?_); rintro e w5 ⟨y, rfl, hy, hb⟩; replace HB := Aside0.mk (below_step (by repeat (first | (with_reducible exact HB.out) | apply below_alloc | apply pw_below_drewN | apply below_drew1 | refine below_set ?_ (by omega))) hb); replace B3 := Aside0.mk (blk_below (g := W.heap.size) (o := .cells #[.slice A0 lots.length c0, .slice A1 samples.length c1, .int .i64 spread, .slice A3 labs.length c3] 26 (0, 0)) (by (with_reducible repeat (first | exact B3.out | refine blk_drewN ?_ _ | refine blk_drew ?_ | refine blk_alloc ?_ _))) hb); (try replace HOff := Aside0.mk (Kd.C_below HOff.out (below_step (by repeat (first | (with_reducible exact Below.refl _ _) | apply below_alloc | apply pw_below_drewN | apply below_drew1)) hb))); (try replace HU := Aside0.mk (HU.out.below (below_step (by repeat (first | (with_reducible exact Below.refl _ _) | apply below_alloc | apply pw_below_drewN | apply below_drew1)) hb))); (try replace HL := Aside0.mk (HL.out.below (below_step (by repeat (first | (with_reducible exact Below.refl _ _) | apply below_alloc | apply pw_below_drewN | apply below_drew1)) hb))); clear hb; have HL := Aside0.mk hy; clear hy; (try clear p0 p1 p2 p3); (try clear lt_B3); have lt_B3 := blk_lt B3.out; obtain ⟨p0, p1, p2, p3⟩ := cells4 B3.out) | (go_at_call 26; (with_reducible refine (spans_at (HU.out.below (by repeat (first | (with_reducible exact Below.refl _ _) | apply below_alloc | apply pw_below_drewN | apply below_drew1))) (HL.out.below (by repeat (first | (with_reducible exact Below.refl _ _) | apply below_alloc | apply pw_below_drewN | apply below_drew1))) hln).mono ?_); (rw [HS.out]); rintro e w6 ⟨_, rfl, ⟨As, cs, rfl, hcs, hSp⟩, hb⟩; clear HU HL; replace HB := Aside0.mk (below_step (by repeat (first | (with_reducible exact HB.out) | apply below_alloc | apply pw_below_drewN | apply below_drew1 | refine below_set ?_ (by omega))) hb); replace B3 := Aside0.mk (blk_below (g := W.heap.size) (o := .cells #[.slice A0 lots.length c0, .slice A1 samples.length c1, .int .i64 spread, .slice A3 labs.length c3] 26 (0, 0)) (by (with_reducible repeat (first | exact B3.out | refine blk_drewN ?_ _ | refine blk_drew ?_ | refine blk_alloc ?_ _))) hb); (try replace HOff := Aside0.mk (Kd.C_below HOff.out (below_step (by repeat (first | (with_reducible exact Below.refl _ _) | apply below_alloc | apply pw_below_drewN | apply below_drew1)) hb))); clear hb; have HSp := Aside0.mk hSp; clear hSp; (try clear p0 p1 p2 p3); (try clear lt_B3); have lt_B3 := blk_lt B3.out; obtain ⟨p0, p1, p2, p3⟩ := cells4 B3.out))
 clear hf1
 obtain ⟨adS, hAS, hx0, hx1⟩ := at_T46 HSp.out (kn : Int) (by omega) (show (kn : Int) < (sp.length : Int) by omega)
 subst hAS
 rw [Int.toNat_natCast] at hx0 hx1
 rw [hlo] at hx0
 rw [hhi] at hx1
 have q0 : (0 ≤ (kn : Int)) = True := eq_true (by omega)
 have q1 : ((kn : Int) < (sp.length : Int)) = True := eq_true (by omega)
 have q2 : (kn < sp.length) = True := eq_true (by omega)
 have e2 : IntKind.i64.wrap (lo - 1) = lo - 1 := IntWalk.i64_in _ (by omega)
 have e3 : IntKind.i64.wrap (hi + 1) = hi + 1 := IntWalk.i64_in _ (by omega)
 have e4 : IntKind.i64.wrap value = value := IntWalk.i64_in _ (by omega)
 obtain ⟨t4, ht4⟩ : ∃ t, Int.tmod value 1001 = t := ⟨_, rfl⟩
 have HLo := Aside0.mk hlo
 have HHi := Aside0.mk hhi
 clear hlo hhi
 refine start_ (n := 28) (S := fun w' => w'.cell? (adS.add (kn * 2)) = some (.int .i64 lo) ∧ w'.cell? ⟨(adS.add (kn * 2)).block, (adS.add (kn * 2)).off + 1, none⟩ = some (.int .i64 hi)) (ds := [27]) #[false, false, false, false, false, false, false, false, false, false, false, false, false, false, false, false, false, false, false, false, false, false, false, false, false, false, false, false] (by kernel_rfl) rfl rfl ⟨hx0, hx1⟩ (fun hHeld => ?_)
 refine with_tabW en.tab9 en.bits9 (fun HT_ HW_ => ?_)
 replace HB := Aside0.mk (below_drew1 HB.out)
 replace B3 := Aside0.mk (blk_drew B3.out)
 replace HOff := Aside0.mk (Kd.C_drew HOff.out)
 replace HSp := Aside0.mk (Kd.C_drew HSp.out)
 clear p0 p1 p2 p3 lt_B3
 generalize w6.drew = w7 at HB B3 HOff HSp hx0 hx1 hHeld ⊢
 refine pure_ (i := 0) (N := some 67) (v := ?_) (a' := ?_) #[true, false, false, false, false, false, false, false, false, false, false, false, false, false, false, false, false, false, false, false, false, false, false, false, false, false, false, false] rfl rfl (any_of HT_.out (by kernel_rfl)) (fun _ _ _ h => h) (Or.inl ⟨by rfl, ?_⟩) ?_ ?_
 rotate_left
 ·intro w'
  go_simp
  with_reducible rfl
 rotate_left
 ·simp only [Act.put, List.setIfInBounds_toArray, List.set_cons_zero, List.set_cons_succ, i64_w, i32_w]
  rfl
 refine pure_ (i := 1) (N := some 68) (v := ?_) (a' := ?_) #[true, true, false, false, false, false, false, false, false, false, false, false, false, false, false, false, false, false, false, false, false, false, false, false, false, false, false, false] rfl rfl (any_of HT_.out (by kernel_rfl)) (fun _ _ _ h => h) (Or.inl ⟨by rfl, ?_⟩) ?_ ?_
 rotate_left
 ·intro w'
  go_simp
  with_reducible rfl
 rotate_left
 ·simp only [Act.put, List.setIfInBounds_toArray, List.set_cons_zero, List.set_cons_succ, i64_w, i32_w]
  rfl
 refine pure_ (i := 2) (N := some 69) (v := ?_) (a' := ?_) #[true, true, true, false, false, false, false, false, false, false, false, false, false, false, false, false, false, false, false, false, false, false, false, false, false, false, false, false] rfl rfl (any_of HT_.out (by kernel_rfl)) (fun _ _ _ h => h) (Or.inl ⟨by rfl, ?_⟩) ?_ ?_
 rotate_left
 ·intro w'
  go_simp
  with_reducible rfl
 rotate_left
 ·simp only [Act.put, List.setIfInBounds_toArray, List.set_cons_zero, List.set_cons_succ, i64_w, i32_w]
  rfl
 refine pure_ (i := 3) (N := some 70) (v := ?_) (a' := ?_) #[true, true, true, true, false, false, false, false, false, false, false, false, false, false, false, false, false, false, false, false, false, false, false, false, false, false, false, false] rfl rfl (any_of HT_.out (by kernel_rfl)) (fun _ _ _ h => h) (Or.inl ⟨by rfl, ?_⟩) ?_ ?_
 rotate_left
 ·intro w'
  go_simp
  with_reducible rfl
 rotate_left
 ·simp only [Act.put, List.setIfInBounds_toArray, List.set_cons_zero, List.set_cons_succ, i64_w, i32_w]
  rfl
 refine pure_ (i := 5) (N := some 72) (v := ?_) (a' := ?_) #[true, true, true, true, false, true, false, false, false, false, false, false, false, false, false, false, false, false, false, false, false, false, false, false, false, false, false, false] rfl rfl (any_of HT_.out (by kernel_rfl)) (fun _ _ _ h => h) (Or.inl ⟨by rfl, ?_⟩) ?_ ?_
 rotate_left
 ·intro w'
  go_simp
  with_reducible rfl
 rotate_left
 ·simp only [Act.put, List.setIfInBounds_toArray, List.set_cons_zero, List.set_cons_succ, i64_w, i32_w]
  rfl
 refine pure_ (i := 6) (N := some 73) (v := ?_) (a' := ?_) #[true, true, true, true, false, true, true, false, false, false, false, false, false, false, false, false, false, false, false, false, false, false, false, false, false, false, false, false] rfl rfl (any_of HT_.out (by kernel_rfl)) (fun _ _ _ h => h) (Or.inl ⟨by rfl, ?_⟩) ?_ ?_
 rotate_left
 ·intro w'
  go_simp
  with_reducible rfl
 rotate_left
 ·simp only [Act.put, List.setIfInBounds_toArray, List.set_cons_zero, List.set_cons_succ, i64_w, i32_w]
  rfl
 refine pure_ (i := 7) (N := some 74) (v := ?_) (a' := ?_) #[true, true, true, true, false, true, true, true, false, false, false, false, false, false, false, false, false, false, false, false, false, false, false, false, false, false, false, false] rfl rfl (any_of HT_.out (by kernel_rfl)) (fun _ _ _ h => h) (Or.inl ⟨by rfl, ?_⟩) ?_ ?_
 rotate_left
 ·intro w'
  go_simp
  with_reducible rfl
 rotate_left
 ·simp only [Act.put, List.setIfInBounds_toArray, List.set_cons_zero, List.set_cons_succ, i64_w, i32_w]
  rfl
 refine pure_ (i := 8) (N := some 75) (v := ?_) (a' := ?_) #[true, true, true, true, false, true, true, true, true, false, false, false, false, false, false, false, false, false, false, false, false, false, false, false, false, false, false, false] rfl rfl (any_of HT_.out (by kernel_rfl)) (fun _ _ _ h => h) (Or.inl ⟨by rfl, ?_⟩) ?_ ?_
 rotate_left
 ·intro w'
  go_simp
  with_reducible rfl
 rotate_left
 ·simp only [Act.put, List.setIfInBounds_toArray, List.set_cons_zero, List.set_cons_succ, i64_w, i32_w]
  rfl
 refine pure_ (i := 10) (N := some 77) (v := ?_) (a' := ?_) #[true, true, true, true, false, true, true, true, true, false, true, false, false, false, false, false, false, false, false, false, false, false, false, false, false, false, false, false] rfl rfl (any_of HT_.out (by kernel_rfl)) (fun _ _ _ h => h) (Or.inl ⟨by rfl, ?_⟩) ?_ ?_
 rotate_left
 ·intro w'
  go_simp
  with_reducible rfl
 rotate_left
 ·simp only [Act.put, List.setIfInBounds_toArray, List.set_cons_zero, List.set_cons_succ, i64_w, i32_w]
  rfl
 refine pure_ (i := 11) (N := some 78) (v := ?_) (a' := ?_) #[true, true, true, true, false, true, true, true, true, false, true, true, false, false, false, false, false, false, false, false, false, false, false, false, false, false, false, false] rfl rfl (any_of HT_.out (by kernel_rfl)) (fun _ _ _ h => h) (Or.inl ⟨by rfl, ?_⟩) ?_ ?_
 rotate_left
 ·intro w'
  go_simp
  with_reducible rfl
 rotate_left
 ·simp only [Act.put, List.setIfInBounds_toArray, List.set_cons_zero, List.set_cons_succ, i64_w, i32_w]
  rfl
 refine pure_ (i := 12) (N := some 79) (v := ?_) (a' := ?_) #[true, true, true, true, false, true, true, true, true, false, true, true, true, false, false, false, false, false, false, false, false, false, false, false, false, false, false, false] rfl rfl (any_of HT_.out (by kernel_rfl)) (fun _ _ _ h => h) (Or.inl ⟨by rfl, ?_⟩) ?_ ?_
 rotate_left
 ·intro w'
  go_simp
  with_reducible rfl
 rotate_left
 ·simp only [Act.put, List.setIfInBounds_toArray, List.set_cons_zero, List.set_cons_succ, i64_w, i32_w]
  rfl
 refine pure_ (i := 13) (N := some 80) (v := ?_) (a' := ?_) #[true, true, true, true, false, true, true, true, true, false, true, true, true, true, false, false, false, false, false, false, false, false, false, false, false, false, false, false] rfl rfl (any_of HT_.out (by kernel_rfl)) (fun _ _ _ h => h) (Or.inl ⟨by rfl, ?_⟩) ?_ ?_
 rotate_left
 ·intro w'
  go_simp
  with_reducible rfl
 rotate_left
 ·simp only [Act.put, List.setIfInBounds_toArray, List.set_cons_zero, List.set_cons_succ, i64_w, i32_w]
  rfl
 refine pure_ (i := 16) (N := some 83) (v := ?_) (a' := ?_) #[true, true, true, true, false, true, true, true, true, false, true, true, true, true, false, false, true, false, false, false, false, false, false, false, false, false, false, false] rfl rfl (any_of HT_.out (by kernel_rfl)) (fun _ _ _ h => h) (Or.inl ⟨by rfl, ?_⟩) ?_ ?_
 rotate_left
 ·intro w'
  go_simp
  with_reducible rfl
 rotate_left
 ·simp only [Act.put, List.setIfInBounds_toArray, List.set_cons_zero, List.set_cons_succ, i64_w, i32_w]
  rfl
 refine pure_ (i := 17) (N := some 84) (v := ?_) (a' := ?_) #[true, true, true, true, false, true, true, true, true, false, true, true, true, true, false, false, true, true, false, false, false, false, false, false, false, false, false, false] rfl rfl (any_of HT_.out (by kernel_rfl)) (fun _ _ _ h => h) (Or.inl ⟨by rfl, ?_⟩) ?_ ?_
 rotate_left
 ·intro w'
  go_simp
  with_reducible rfl
 rotate_left
 ·simp only [Act.put, List.setIfInBounds_toArray, List.set_cons_zero, List.set_cons_succ, i64_w, i32_w]
  rfl
 refine pure_ (i := 18) (N := some 85) (v := ?_) (a' := ?_) #[true, true, true, true, false, true, true, true, true, false, true, true, true, true, false, false, true, true, true, false, false, false, false, false, false, false, false, false] rfl rfl (any_of HT_.out (by kernel_rfl)) (fun _ _ _ h => h) (Or.inl ⟨by rfl, ?_⟩) ?_ ?_
 rotate_left
 ·intro w'
  go_simp
  with_reducible rfl
 rotate_left
 ·simp only [Act.put, List.setIfInBounds_toArray, List.set_cons_zero, List.set_cons_succ, i64_w, i32_w]
  rfl
 refine pure_ (i := 19) (N := some 86) (v := ?_) (a' := ?_) #[true, true, true, true, false, true, true, true, true, false, true, true, true, true, false, false, true, true, true, true, false, false, false, false, false, false, false, false] rfl rfl (any_of HT_.out (by kernel_rfl)) (fun _ _ _ h => h) (Or.inl ⟨by rfl, ?_⟩) ?_ ?_
 rotate_left
 ·intro w'
  go_simp
  with_reducible rfl
 rotate_left
 ·simp only [Act.put, List.setIfInBounds_toArray, List.set_cons_zero, List.set_cons_succ, i64_w, i32_w]
  rfl
 refine pure_ (i := 22) (N := some 89) (v := ?_) (a' := ?_) #[true, true, true, true, false, true, true, true, true, false, true, true, true, true, false, false, true, true, true, true, false, false, true, false, false, false, false, false] rfl rfl (any_of HT_.out (by kernel_rfl)) (fun _ _ _ h => h) (Or.inl ⟨by rfl, ?_⟩) ?_ ?_
 rotate_left
 ·intro w'
  go_simp
  with_reducible rfl
 rotate_left
 ·simp only [Act.put, List.setIfInBounds_toArray, List.set_cons_zero, List.set_cons_succ, i64_w, i32_w]
  rfl
 refine pure_ (i := 23) (N := some 90) (v := ?_) (a' := ?_) #[true, true, true, true, false, true, true, true, true, false, true, true, true, true, false, false, true, true, true, true, false, false, true, true, false, false, false, false] rfl rfl (any_of HT_.out (by kernel_rfl)) (fun _ _ _ h => h) (Or.inl ⟨by rfl, ?_⟩) ?_ ?_
 rotate_left
 ·intro w'
  go_simp
  with_reducible rfl
 rotate_left
 ·simp only [Act.put, List.setIfInBounds_toArray, List.set_cons_zero, List.set_cons_succ, i64_w, i32_w]
  rfl
 refine pure_ (i := 24) (N := some 91) (v := ?_) (a' := ?_) #[true, true, true, true, false, true, true, true, true, false, true, true, true, true, false, false, true, true, true, true, false, false, true, true, true, false, false, false] rfl rfl (any_of HT_.out (by kernel_rfl)) (fun _ _ _ h => h) (Or.inl ⟨by rfl, ?_⟩) ?_ ?_
 rotate_left
 ·intro w'
  go_simp
  with_reducible rfl
 rotate_left
 ·simp only [Act.put, List.setIfInBounds_toArray, List.set_cons_zero, List.set_cons_succ, i64_w, i32_w]
  rfl
 refine take_ (i := 4) (N := some 71) (v := ?_) (a' := ?_) #[true, true, true, true, true, true, true, true, true, false, true, true, true, true, false, false, true, true, true, true, false, false, true, true, true, false, false, false] rfl rfl (take_ofW HT_.out HW_.out (by kernel_rfl)) (fun _ _ _ h => h) (Or.inl ⟨by rfl, ?_⟩) hHeld ?_ ?_
 rotate_left
 ·rintro w' ⟨s0, s1⟩
  go_simp
  with_reducible rfl
 rotate_left
 ·simp only [Act.put, List.setIfInBounds_toArray, List.set_cons_zero, List.set_cons_succ, i64_w, i32_w]
  rfl
 refine take_ (i := 9) (N := some 76) (v := ?_) (a' := ?_) #[true, true, true, true, true, true, true, true, true, true, true, true, true, true, false, false, true, true, true, true, false, false, true, true, true, false, false, false] rfl rfl (take_ofW HT_.out HW_.out (by kernel_rfl)) (fun _ _ _ h => h) (Or.inl ⟨by rfl, ?_⟩) hHeld ?_ ?_
 rotate_left
 ·rintro w' ⟨s0, s1⟩
  go_simp
  with_reducible rfl
 rotate_left
 ·simp only [Act.put, List.setIfInBounds_toArray, List.set_cons_zero, List.set_cons_succ, i64_w, i32_w]
  rfl
 refine take_ (i := 14) (N := some 81) (v := ?_) (a' := ?_) #[true, true, true, true, true, true, true, true, true, true, true, true, true, true, true, false, true, true, true, true, false, false, true, true, true, false, false, false] rfl rfl (take_ofW HT_.out HW_.out (by kernel_rfl)) (fun _ _ _ h => h) (Or.inl ⟨by rfl, ?_⟩) hHeld ?_ ?_
 rotate_left
 ·rintro w' ⟨s0, s1⟩
  go_simp
  with_reducible rfl
 rotate_left
 ·simp only [Act.put, List.setIfInBounds_toArray, List.set_cons_zero, List.set_cons_succ, i64_w, i32_w]
  rfl
 refine pure_ (i := 15) (N := some 82) (v := ?_) (a' := ?_) #[true, true, true, true, true, true, true, true, true, true, true, true, true, true, true, true, true, true, true, true, false, false, true, true, true, false, false, false] rfl rfl (any_of HT_.out (by kernel_rfl)) (fun _ _ _ h => h) (Or.inl ⟨by rfl, ?_⟩) ?_ ?_
 rotate_left
 ·intro w'
  go_simp
  with_reducible rfl
 rotate_left
 ·simp only [Act.put, List.setIfInBounds_toArray, List.set_cons_zero, List.set_cons_succ, i64_w, i32_w]
  rfl
 refine take_ (i := 20) (N := some 87) (v := ?_) (a' := ?_) #[true, true, true, true, true, true, true, true, true, true, true, true, true, true, true, true, true, true, true, true, true, false, true, true, true, false, false, false] rfl rfl (take_ofW HT_.out HW_.out (by kernel_rfl)) (fun _ _ _ h => h) (Or.inl ⟨by rfl, ?_⟩) hHeld ?_ ?_
 rotate_left
 ·rintro w' ⟨s0, s1⟩
  go_simp
  with_reducible rfl
 rotate_left
 ·simp only [Act.put, List.setIfInBounds_toArray, List.set_cons_zero, List.set_cons_succ, i64_w, i32_w]
  rfl
 refine pure_ (i := 21) (N := some 88) (v := ?_) (a' := ?_) #[true, true, true, true, true, true, true, true, true, true, true, true, true, true, true, true, true, true, true, true, true, true, true, true, true, false, false, false] rfl rfl (any_of HT_.out (by kernel_rfl)) (fun _ _ _ h => h) (Or.inl ⟨by rfl, ?_⟩) ?_ ?_
 rotate_left
 ·intro w'
  go_simp
  with_reducible rfl
 rotate_left
 ·simp only [Act.put, List.setIfInBounds_toArray, List.set_cons_zero, List.set_cons_succ, i64_w, i32_w]
  rfl
 refine pure_ (i := 25) (N := some 92) (v := ?_) (a' := ?_) #[true, true, true, true, true, true, true, true, true, true, true, true, true, true, true, true, true, true, true, true, true, true, true, true, true, true, false, false] rfl rfl (any_of HT_.out (by kernel_rfl)) (fun _ _ _ h => h) (Or.inl ⟨by rfl, ?_⟩) ?_ ?_
 rotate_left
 ·intro w'
  go_simp
  with_reducible rfl
 rotate_left
 ·simp only [Act.put, List.setIfInBounds_toArray, List.set_cons_zero, List.set_cons_succ, i64_w, i32_w]
  rfl
 refine one_ (i := 26) (N := some 13) #[true, true, true, true, true, true, true, true, true, true, true, true, true, true, true, true, true, true, true, true, true, true, true, true, true, true, true, false] rfl rfl (one_of HT_.out (by kernel_rfl)) (by decide) (fun K hK => ?_)
 refine value_ (w1 := ?_) (v := ?_) (by rfl) rfl ?_ ?_
 rotate_left 2
 ·go_simp
  constructor
  ·rfl
  ·rfl
 refine hK.out _ _ ⟨pw_cell_below (below_alloc (Below.refl _ _) _) hHeld.1, pw_cell_below (below_alloc (Below.refl _ _) _) hHeld.2⟩ (fun hHeld => ?_)
 clear hK K
 refine norm_ (a' := ?_) ?_ ?_
 rotate_left
 ·show Act.put _ (some 13) _ = _
  simp only [Act.put, List.setIfInBounds_toArray, List.set_cons_zero, List.set_cons_succ, i64_w, i32_w]
  rfl
 refine last_ (i := 27) (N := none) #[true, true, true, true, true, true, true, true, true, true, true, true, true, true, true, true, true, true, true, true, true, true, true, true, true, true, true, true] rfl rfl (one_of HT_.out (by kernel_rfl)) (by decide) (fun K hK => ?_)
 refine skip_ (w1 := ?_) (by rfl) rfl ?_ ?_
 rotate_left
 ·go_simp
  rfl
 refine hK.out _ _ ?_
 clear hK K
 refine done_ (done_of HT_.out (by kernel_rfl)) ?_
 have BT := Aside0.mk (blk_new w7 (.cells #[.int .i64 lo, .int .i64 hi, .int .i64 (lo - 1), .int .i64 (hi + 1), .int .i64 t4] 60))
 have lt7 := blk_lt B3.out
 have hgt : w7.heap.size < (w7.alloc (.cells #[.int .i64 lo, .int .i64 hi, .int .i64 (lo - 1), .int .i64 (hi + 1), .int .i64 t4] 60)).heap.size := by simp
 replace B3 := Aside0.mk (blk_alloc B3.out (.cells #[.int .i64 lo, .int .i64 hi, .int .i64 (lo - 1), .int .i64 (hi + 1), .int .i64 t4] 60))
 replace HB := Aside0.mk (below_alloc HB.out (.cells #[.int .i64 lo, .int .i64 hi, .int .i64 (lo - 1), .int .i64 (hi + 1), .int .i64 t4] 60))
 replace HOff := Aside0.mk (Kd.C_alloc HOff.out (.cells #[.int .i64 lo, .int .i64 hi, .int .i64 (lo - 1), .int .i64 (hi + 1), .int .i64 t4] 60))
 replace HSp := Aside0.mk (Kd.C_alloc HSp.out (.cells #[.int .i64 lo, .int .i64 hi, .int .i64 (lo - 1), .int .i64 (hi + 1), .int .i64 t4] 60))
 clear hHeld q0 q1 q2 e1 e2 e3 e4 d0 d1 d2 d3_ hx0 hx1 hk HS
 have HT4 := Aside0.mk ht4
 clear ht4
 generalize w7.alloc (.cells #[.int .i64 lo, .int .i64 hi, .int .i64 (lo - 1), .int .i64 (hi + 1), .int .i64 t4] 60) = w8 at BT B3 HB HOff HSp hgt ⊢
 generalize w7.heap.size = gt at BT lt7 hgt ⊢
 go_wp2
 go_loopw [14] (fun q wr => ∃ i : Nat, i ≤ 5 ∧ q = .int .i64 (i : Int) ∧ Aside0 (Below w8.heap.size w8 wr)) (fun q _ => 5 - (intOf q).toNat)
 case atStart => exact ⟨0, by omega, rfl, ⟨Below.refl _ _⟩⟩
 case round =>
  obtain ⟨i, hi5, rfl, HBr⟩ := hrel
  have B3r := Aside0.mk (blk_below (g := W.heap.size) (o := .cells #[.slice A0 lots.length c0, .slice A1 samples.length c1, .int .i64 spread, .slice A3 labs.length c3] 26 (0, 0)) B3.out HBr.out)
  have BTr := Aside0.mk (blk_below (g := gt) (o := .cells #[.int .i64 lo, .int .i64 hi, .int .i64 (lo - 1), .int .i64 (hi + 1), .int .i64 t4] 60 (0, 0)) BT.out HBr.out)
  obtain ⟨p0, p1, p2, p3⟩ := cells4 B3r.out
  have lt_B3r := blk_lt B3r.out
  have hgx := HBr.out.size
  by_cases hlt : i < 5
  ·have hcT := tried5 BTr.out i hlt
   obtain ⟨n, hn⟩ : ∃ n, [lo, hi, lo - 1, hi + 1, t4].getD i 0 = n := ⟨_, rfl⟩
   rw [hn] at hcT
   clear hn
   have HIn := Aside0.mk (In_any n 0 1000)
   by_cases hin : 0 ≤ n ∧ n ≤ 1000
   ·have hw1 : withinB n 0 1000 = true := by unfold withinB; rw [decide_eq_true hin.1, decide_eq_true hin.2]; rfl
    rw [hw1] at HIn
    obtain ⟨hn0, hn1⟩ := hin
    obtain ⟨hthx, hex⟩ := HFin.out n hn0 hn1
    obtain ⟨L2, hL2⟩ : ∃ L, labs ++ [(⟨0, oneRead samples.length kn n⟩ : S62)] = L := ⟨_, rfl⟩
    rw [hL2] at hthx hex
    have HIn2 := Aside0.mk (In_any n lo hi)
    obtain ⟨b, hb9⟩ : ∃ b, withinB n lo hi = b := ⟨_, rfl⟩
    rw [hb9] at hex HIn2
    have HThX := Aside0.mk hthx
    have HEx := Aside0.mk hex
    have HL2 := Aside0.mk hL2
    clear hthx hex hL2 hb9 hw1
    have h10 := HTh.out.b
    go_wp2_with (go_at_call 33; (with_reducible refine (HIn.out _).mono ?_); rintro e w9 ⟨rfl, hw9⟩; obtain rfl := hw9.symm)
    clear HIn hcT p0 p1 p2 p3
    have BX := Aside0.mk (blk_alloc (blk_new wr (.cells #[.slice A0 lots.length c0, .slice A1 samples.length c1, .int .i64 spread, .slice A3 labs.length c3] 26)) (.cells #[.int .i64 0, .slice none 0 0] 62))
    have BM := Aside0.mk (blk_new2 wr (.cells #[.slice A0 lots.length c0, .slice A1 samples.length c1, .int .i64 spread, .slice A3 labs.length c3] 26) (.cells #[.int .i64 0, .slice none 0 0] 62))
    replace HBr := Aside0.mk (below_alloc (below_alloc HBr.out (.cells #[.slice A0 lots.length c0, .slice A1 samples.length c1, .int .i64 spread, .slice A3 labs.length c3] 26)) (.cells #[.int .i64 0, .slice none 0 0] 62))
    clear B3r BTr lt_B3r
    generalize (wr.alloc (.cells #[.slice A0 lots.length c0, .slice A1 samples.length c1, .int .i64 spread, .slice A3 labs.length c3] 26)).alloc (.cells #[.int .i64 0, .slice none 0 0] 62) = wx at BX BM HBr ⊢
    obtain ⟨gx, hgxe⟩ : ∃ g, wr.heap.size = g := ⟨_, rfl⟩
    rw [hgxe] at hgx BX BM ⊢
    clear hgxe
    go_loopw [18] (fun q wy => ∃ m : Nat, m ≤ samples.length ∧ q = .int .i64 (m : Int) ∧ ∃ vR : Value, Aside0 (wy.heap[gx]? = some (.cells #[.slice A0 lots.length c0, .slice A1 samples.length c1, .int .i64 spread, .slice A3 labs.length c3] 26 (0, 0))) ∧ Aside0 (wy.heap[gx + 1]? = some (.cells #[.int .i64 0, vR] 62 (0, 0))) ∧ Aside0 ((Kd.int .i64).R 3 wy w8.heap.size (fun _ => True) vR (List.replicate m (-1))) ∧ Aside0 (Below w8.heap.size w8 wy)) (fun q _ => samples.length - (intOf q).toNat)
    case atStart => exact ⟨0, Nat.zero_le _, rfl, _, BX, BM, ⟨Kd.R_nil _ _ _ _ _⟩, HBr⟩
    case round =>
     clear BX BM HBr
     obtain ⟨m, hm, rfl, vR, BX, BM, HR, HBy⟩ := hrel
     have B3y := Aside0.mk (blk_below (g := W.heap.size) (o := .cells #[.slice A0 lots.length c0, .slice A1 samples.length c1, .int .i64 spread, .slice A3 labs.length c3] 26 (0, 0)) B3.out HBy.out)
     obtain ⟨p0, p1, p2, p3⟩ := cells4 B3y.out
     obtain ⟨x0, x1⟩ := cells2 BM.out
     have z1 := blk_frozen BM.out 1
     have lt_y := blk_lt B3y.out
     have lt_M := blk_lt BM.out
     have lt_X := blk_lt BX.out
     by_cases hlm : m < samples.length
     ·have g0 : decide ((m : Int) < (samples.length : Int)) = true := decide_eq_true (by omega)
      go_wp2_with (first | ((with_reducible refine gate_builtin (b := .append) (xs := #[.tmp 113, .tmp 114]) rfl ?_); at_builtin; refine Kd.R_append (Kd.int .i64) (w0 := w8) w8.heap.size rfl (.tmp 113) (.tmp 114) 23 3 (.int .i64 0) 8 rfl Try.underlying23 info3 rfl (by decide) (by omega) vR (List.replicate m (-1)) (-1) [.int .i64 (-1)] (fun _ => True) (fun _ => False) rfl rfl rfl (fun _ hk => hk.elim) (fun _ _ => trivial) (by (with_reducible repeat (first | apply Kd.R_alloc | apply Kd.R_drewN | apply Kd.R_drew)); exact HR.out) (by repeat (first | (with_reducible exact HBy.out) | apply below_alloc | apply pw_below_drewN | apply below_drew1)) (below_size (by repeat (first | (with_reducible exact HBy.out) | apply below_alloc | apply pw_below_drewN | apply below_drew1))) (by rw [List.length_replicate]; omega) ?_; intro v4 w4 ho hb hg hat; rw [rep_snoc] at ho; have n_BX := Aside0.mk (blk_grown (g := gx) (o := .cells #[.slice A0 lots.length c0, .slice A1 samples.length c1, .int .i64 spread, .slice A3 labs.length c3] 26 (0, 0)) (by (with_reducible repeat (first | exact BX.out | refine blk_drewN ?_ _ | refine blk_drew ?_ | refine blk_alloc ?_ _))) hg (Kd.R_ne HR.out BX.out (by decide))); have n_BM := Aside0.mk (blk_grown (g := gx + 1) (o := .cells #[.int .i64 0, vR] 62 (0, 0)) (by (with_reducible repeat (first | exact BM.out | refine blk_drewN ?_ _ | refine blk_drew ?_ | refine blk_alloc ?_ _))) hg (Kd.R_ne HR.out BM.out (by decide))); have n_HB := Aside0.mk hb; have n_HR := Aside0.mk ho; clear p0 p1 p2 p3 x0 x1 z1 ho hb hg hat lt_M lt_X lt_y B3y; clear BX BM HBy HR; have BX := n_BX; have BM := n_BM; have HBy := n_HB; have HR := n_HR; clear n_BX n_BM n_HB n_HR; obtain ⟨A4, c4, e4⟩ := Kd.R_slice HR.out; rw [List.length_replicate] at e4; subst e4; obtain ⟨x0, x1⟩ := cells2 BM.out; have z1 := blk_frozen BM.out 1; have lt_M := blk_lt BM.out))
      go_roundw
      case rel => exact ⟨m + 1, by omega, by go_num, _, ⟨blk_far BX.out (by simp) _⟩, ⟨blk_put (cs := #[.int .i64 0, vR]) BM.out 1 _ rfl⟩, ⟨Kd.R_mono (Kd.R_far (p := ⟨gx + 1, 1, none⟩) (Kd.R_types HR.out BM.out (by decide)) (fun _ hk => hk.2) _) (fun _ _ => trivial)⟩, ⟨below_set HBy.out (by omega)⟩⟩
      case measure => simp [intOf]; omega
     ·have hms : m = samples.length := by omega
      subst hms
      have g0 : decide ((samples.length : Int) < (samples.length : Int)) = false := decide_eq_false (by omega)
      obtain ⟨gr, cr, er, hgr, hgl, cur, hgc⟩ := Kd.R_form HR.out (by rw [List.length_replicate]; omega)
      rw [List.length_replicate] at er
      subst er
      obtain ⟨hst0, hst1⟩ := Kd.R_celln 0 HR.out (kn : Int) (by omega) (by omega)
      rw [Int.toNat_natCast] at hst0 hst1
      have q0 : (0 ≤ (kn : Int)) = True := eq_true (by omega)
      have q1 : ((kn : Int) < (samples.length : Int)) = True := eq_true (by omega)
      have q2 : (kn < samples.length) = True := eq_true hK
      go_upto_region 22 with fail
      have hR2 := (Kd.R_putg HR.out (kn : Int) n).1
      rw [Int.toNat_natCast] at hR2
      have hGR := Aside0.mk hgr
      have hne : gx ≠ gr := blk_ne BX.out hgc (by decide)
      have hneM : gx + 1 ≠ gr := blk_ne BM.out hgc (by decide)
      replace BX := Aside0.mk (blk_far (p := ⟨gr, kn, none⟩) BX.out (by dsimp only; exact hne) (.int .i64 n))
      replace BM := Aside0.mk (blk_far (p := ⟨gr, kn, none⟩) BM.out (by dsimp only; exact hneM) (.int .i64 n))
      replace HBy := Aside0.mk (below_set (g := gr) (j := kn) (v := .int .i64 n) HBy.out hgr)
      replace HR := Aside0.mk (show (Kd.int .i64).R 3 (wr.setCell ⟨gr, kn, none⟩ (.int .i64 n)) w8.heap.size (fun _ => True) (.slice (some ⟨gr, 0, none⟩) samples.length cr) (oneRead samples.length kn n) from hR2)
      clear p0 p1 p2 p3 x0 x1 z1 hst0 hst1 q0 q1 q2 hgc hR2 B3y lt_y lt_M lt_X hgl hgr g0 hlm hne hneM
      generalize World.setCell wr ⟨gr, kn, none⟩ (.int .i64 n) = w9 at BX BM HBy HR ⊢
      refine start_ (n := 9) (S := fun w' => w'.cell? ⟨gx + 1, 0, none⟩ = some (.int .i64 0) ∧ w'.cell? ⟨gx + 1, 1, none⟩ = some (.slice (some ⟨gr, 0, none⟩) samples.length cr) ∧ w'.cell? ⟨W.heap.size, 3, none⟩ = some (.slice A3 labs.length c3)) (ds := [8]) #[false, false, false, false, false, false, false, false, false] (by kernel_rfl) rfl rfl ⟨(blk_cell (blk_drew BM.out) 0).trans rfl, (blk_cell (blk_drew BM.out) 1).trans rfl, (blk_cell (blk_below (g := W.heap.size) (o := .cells #[.slice A0 lots.length c0, .slice A1 samples.length c1, .int .i64 spread, .slice A3 labs.length c3] 26 (0, 0)) B3.out (below_drew1 HBy.out)) 3).trans rfl⟩ (fun hHeld => ?_)
      refine with_tabW en.tab22 en.bits22 (fun HT_ HW_ => ?_)
      replace BX := Aside0.mk (blk_drew BX.out)
      replace BM := Aside0.mk (blk_drew BM.out)
      replace HR := Aside0.mk (Kd.R_drew HR.out)
      replace HBy := Aside0.mk (below_drew1 HBy.out)
      generalize w9.drew = w10 at BX BM HBy HR hHeld ⊢
      have HD := Aside0.mk (Below.refl w10.heap.size w10)
      have B3z := Aside0.mk (blk_below (g := W.heap.size) (o := .cells #[.slice A0 lots.length c0, .slice A1 samples.length c1, .int .i64 spread, .slice A3 labs.length c3] 26 (0, 0)) B3.out HBy.out)
      refine pure_ (i := 1) (N := some 123) (v := ?_) (a' := ?_) #[false, true, false, false, false, false, false, false, false] rfl rfl (any_of HT_.out (by kernel_rfl)) (fun _ _ _ h => h) (Or.inl ⟨by rfl, ?_⟩) ?_ ?_
      rotate_left
      ·intro w'
       go_simp
       with_reducible rfl
      rotate_left
      ·simp only [Act.put, List.setIfInBounds_toArray, List.set_cons_zero, List.set_cons_succ, i64_w, i32_w]
       rfl
      refine take_ (i := 2) (N := some 124) (v := ?_) (a' := ?_) #[false, true, true, false, false, false, false, false, false] rfl rfl (take_ofW HT_.out HW_.out (by kernel_rfl)) (fun _ _ _ h => h) (Or.inl ⟨by rfl, ?_⟩) hHeld ?_ ?_
      rotate_left
      ·rintro w' ⟨s0, s1, s2⟩
       go_simp
       with_reducible rfl
      rotate_left
      ·simp only [Act.put, List.setIfInBounds_toArray, List.set_cons_zero, List.set_cons_succ, i64_w, i32_w]
       rfl
      refine take_ (i := 4) (N := some 126) (v := ?_) (a' := ?_) #[false, true, true, false, true, false, false, false, false] rfl rfl (take_ofW HT_.out HW_.out (by kernel_rfl)) (fun _ _ _ h => h) (Or.inl ⟨by rfl, ?_⟩) hHeld ?_ ?_
      rotate_left
      ·rintro w' ⟨s0, s1, s2⟩
       go_simp
       with_reducible rfl
      rotate_left
      ·simp only [Act.put, List.setIfInBounds_toArray, List.set_cons_zero, List.set_cons_succ, i64_w, i32_w]
       rfl
      refine join_ (σ := Value × Value × Nat) 3 #[true, true, true, true, true, true, false, false, false] (fun s_ => [(122, s_.1), (125, s_.2.1), (127, .slice (some ⟨s_.2.2, 0, none⟩) 1 1)]) (fun s_ w' => (w'.cell? ⟨gx + 1, 0, none⟩ = some (.int .i64 0) ∧ w'.cell? ⟨gx + 1, 1, none⟩ = some (.slice (some ⟨gr, 0, none⟩) samples.length cr) ∧ w'.cell? ⟨W.heap.size, 3, none⟩ = some (.slice A3 labs.length c3)) ∧ Below w10.heap.size w10 w' ∧ (Kd.raw 2).R 62 w' w10.heap.size (fun _ => True) s_.2.1 rb ∧ w'.heap[s_.2.2]? = some (.cells #[.int .i64 0, .slice (some ⟨gr, 0, none⟩) samples.length cr] 62 (0, 0))) ?_ ?_
      rotate_left
      ·intro hCont
       refine two_ (i := 0) (j := 5) (Ni := some 122) (Nj := some 127) #[true, true, true, false, true, false, false, false, false] #[false, true, true, false, true, true, false, false, false] rfl rfl rfl rfl (two_of HT_.out (by kernel_rfl)) (by decide) (by decide) (fun K hK => ?_) (fun K hK => ?_)
       ·skip
        refine Kd.R_lit_step (Kd.raw 2) (w0 := w10) w10.heap.size 62 ?hg (N := 122) ?hd (xs := ([] : List (List Value))) (inner := []) (ok := fun _ => True) (okp := fun _ => True) ?hr ?hp (fun _ hk => hk) trivial HD.out (below_size HD.out) (by simp) ?_; (case hd => rfl); (case hg => rfl); (case hr => first | (go_simp; done) | (go_simp; rfl)); (case hp => exact (Reps.none _ _))
        intro v122 wA ho hb hg hnew
        have HR122 := Aside0.mk ho
        replace HD := Aside0.mk hb
        clear ho hb hg hnew
        refine hK.out _ _ ⟨(blk_cell (blk_below (g := gx + 1) (o := .cells #[.int .i64 0, .slice (some ⟨gr, 0, none⟩) samples.length cr] 62 (0, 0)) BM.out HD.out) 0).trans rfl, (blk_cell (blk_below (g := gx + 1) (o := .cells #[.int .i64 0, .slice (some ⟨gr, 0, none⟩) samples.length cr] 62 (0, 0)) BM.out HD.out) 1).trans rfl, (blk_cell (blk_below (g := W.heap.size) (o := .cells #[.slice A0 lots.length c0, .slice A1 samples.length c1, .int .i64 spread, .slice A3 labs.length c3] 26 (0, 0)) B3z.out HD.out) 3).trans rfl⟩ (fun hHeld => ?_)
        clear hK K
        refine norm_ (a' := ?_) ?_ ?_
        rotate_left
        ·show Act.put _ (some 122) _ = _
         simp only [Act.put, List.setIfInBounds_toArray, List.set_cons_zero, List.set_cons_succ, i64_w, i32_w]
         rfl
        refine two_ (i := 3) (j := 5) (Ni := some 125) (Nj := some 127) #[true, true, true, true, true, false, false, false, false] #[true, true, true, false, true, true, false, false, false] rfl rfl rfl rfl (two_of HT_.out (by kernel_rfl)) (by decide) (by decide) (fun K hK => ?_) (fun K hK => ?_)
        ·skip
         refine Kd.R_append_rows_step (Kd.raw 2) (Rr := (Kd.raw 2).K _) (w0 := w10) w10.heap.size (by rfl) (.tmp 122) (.tmp 124) 24 62 (.agg #[(.int .i64 0), (.slice none 0 0)]) 32 rfl Try.underlying24 info62 rfl (by decide) (by omega) v122 [] rb A3 _ _ (fun _ => True) (fun _ => False) (by rfl) (by rfl) HR122.out (Kd.C_below HBC.out (below_step HB.out (below_step HBy.out HD.out))) (fun _ _ h => h) (fun _ h => h.elim) (fun _ _ => trivial) HD.out (below_size HD.out) (by simp only [List.length_nil]; omega) ?_
         intro v125 wB ho hb hg hat
         rw [List.nil_append] at ho
         have HR125 := Aside0.mk ho
         replace HD := Aside0.mk hb
         clear ho hb hg hat
         refine hK.out _ _ ⟨(blk_cell (blk_below (g := gx + 1) (o := .cells #[.int .i64 0, .slice (some ⟨gr, 0, none⟩) samples.length cr] 62 (0, 0)) BM.out HD.out) 0).trans rfl, (blk_cell (blk_below (g := gx + 1) (o := .cells #[.int .i64 0, .slice (some ⟨gr, 0, none⟩) samples.length cr] 62 (0, 0)) BM.out HD.out) 1).trans rfl, (blk_cell (blk_below (g := W.heap.size) (o := .cells #[.slice A0 lots.length c0, .slice A1 samples.length c1, .int .i64 spread, .slice A3 labs.length c3] 26 (0, 0)) B3z.out HD.out) 3).trans rfl⟩ (fun hHeld => ?_)
         clear hK K
         refine norm_ (a' := ?_) ?_ ?_
         rotate_left
         ·show Act.put _ (some 125) _ = _
          simp only [Act.put, List.setIfInBounds_toArray, List.set_cons_zero, List.set_cons_succ, i64_w, i32_w]
          rfl
         refine one_ (i := 5) (N := some 127) #[true, true, true, true, true, true, false, false, false] rfl rfl (one_of HT_.out (by kernel_rfl)) (by decide) (fun K hK => ?_)
         refine lit_blk_step ?hg (N := 127) ?hd (cs := #[.int .i64 0, .slice (some ⟨gr, 0, none⟩) samples.length cr]) (t := 62) (n := 1) ?hr ?_; (case hd => rfl); (case hg => rfl); (case hr => first | (go_simp; done) | (go_simp; rfl))
         intro g127 hg127 wC hB127 hb
         have B127 := Aside0.mk hB127
         replace HR125 := Aside0.mk (Kd.R_below HR125.out hb)
         replace HD := Aside0.mk (below_step HD.out hb)
         clear hg127 hB127 hb
         refine hK.out _ _ ⟨(blk_cell (blk_below (g := gx + 1) (o := .cells #[.int .i64 0, .slice (some ⟨gr, 0, none⟩) samples.length cr] 62 (0, 0)) BM.out HD.out) 0).trans rfl, (blk_cell (blk_below (g := gx + 1) (o := .cells #[.int .i64 0, .slice (some ⟨gr, 0, none⟩) samples.length cr] 62 (0, 0)) BM.out HD.out) 1).trans rfl, (blk_cell (blk_below (g := W.heap.size) (o := .cells #[.slice A0 lots.length c0, .slice A1 samples.length c1, .int .i64 spread, .slice A3 labs.length c3] 26 (0, 0)) B3z.out HD.out) 3).trans rfl⟩ (fun hHeld => ?_)
         clear hK K
         refine norm_ (a' := ?_) ?_ ?_
         rotate_left
         ·show Act.put _ (some 127) _ = _
          simp only [Act.put, List.setIfInBounds_toArray, List.set_cons_zero, List.set_cons_succ, i64_w, i32_w]
          rfl
         exact norm_ (by simp only [putAll, Act.put, List.setIfInBounds_toArray, List.set_cons_zero, List.set_cons_succ]) (hCont (v122, v125, g127) _ ⟨hHeld, HD.out, HR125.out, B127.out⟩)
        ·skip
         refine lit_blk_step ?hg (N := 127) ?hd (cs := #[.int .i64 0, .slice (some ⟨gr, 0, none⟩) samples.length cr]) (t := 62) (n := 1) ?hr ?_; (case hd => rfl); (case hg => rfl); (case hr => first | (go_simp; done) | (go_simp; rfl))
         intro g127 hg127 wC hB127 hb
         have B127 := Aside0.mk hB127
         have HNE : some g127 ≠ v122.ownBlock := by intro h_; have := Kd.R_lt HR122.out g127 h_.symm; omega
         replace HR122 := Aside0.mk (Kd.R_below HR122.out hb)
         replace HD := Aside0.mk (below_step HD.out hb)
         clear hg127 hB127 hb
         refine hK.out _ _ ⟨(blk_cell (blk_below (g := gx + 1) (o := .cells #[.int .i64 0, .slice (some ⟨gr, 0, none⟩) samples.length cr] 62 (0, 0)) BM.out HD.out) 0).trans rfl, (blk_cell (blk_below (g := gx + 1) (o := .cells #[.int .i64 0, .slice (some ⟨gr, 0, none⟩) samples.length cr] 62 (0, 0)) BM.out HD.out) 1).trans rfl, (blk_cell (blk_below (g := W.heap.size) (o := .cells #[.slice A0 lots.length c0, .slice A1 samples.length c1, .int .i64 spread, .slice A3 labs.length c3] 26 (0, 0)) B3z.out HD.out) 3).trans rfl⟩ (fun hHeld => ?_)
         clear hK K
         refine norm_ (a' := ?_) ?_ ?_
         rotate_left
         ·show Act.put _ (some 127) _ = _
          simp only [Act.put, List.setIfInBounds_toArray, List.set_cons_zero, List.set_cons_succ, i64_w, i32_w]
          rfl
         refine one_ (i := 3) (N := some 125) #[true, true, true, true, true, true, false, false, false] rfl rfl (one_of HT_.out (by kernel_rfl)) (by decide) (fun K hK => ?_)
         refine Kd.R_append_rows_step (Kd.raw 2) (Rr := (Kd.raw 2).K _) (w0 := w10) w10.heap.size (by rfl) (.tmp 122) (.tmp 124) 24 62 (.agg #[(.int .i64 0), (.slice none 0 0)]) 32 rfl Try.underlying24 info62 rfl (by decide) (by omega) v122 [] rb A3 _ _ (fun _ => True) (fun _ => False) (by rfl) (by rfl) HR122.out (Kd.C_below HBC.out (below_step HB.out (below_step HBy.out HD.out))) (fun _ _ h => h) (fun _ h => h.elim) (fun _ _ => trivial) HD.out (below_size HD.out) (by simp only [List.length_nil]; omega) ?_
         intro v125 wB ho hb hg hat
         rw [List.nil_append] at ho
         have HR125 := Aside0.mk ho
         replace B127 := Aside0.mk (blk_grown (g := g127) (o := .cells #[.int .i64 0, .slice (some ⟨gr, 0, none⟩) samples.length cr] 62 (0, 0)) B127.out hg HNE)
         replace HD := Aside0.mk hb
         clear ho hb hg hat
         refine hK.out _ _ ⟨(blk_cell (blk_below (g := gx + 1) (o := .cells #[.int .i64 0, .slice (some ⟨gr, 0, none⟩) samples.length cr] 62 (0, 0)) BM.out HD.out) 0).trans rfl, (blk_cell (blk_below (g := gx + 1) (o := .cells #[.int .i64 0, .slice (some ⟨gr, 0, none⟩) samples.length cr] 62 (0, 0)) BM.out HD.out) 1).trans rfl, (blk_cell (blk_below (g := W.heap.size) (o := .cells #[.slice A0 lots.length c0, .slice A1 samples.length c1, .int .i64 spread, .slice A3 labs.length c3] 26 (0, 0)) B3z.out HD.out) 3).trans rfl⟩ (fun hHeld => ?_)
         clear hK K
         refine norm_ (a' := ?_) ?_ ?_
         rotate_left
         ·show Act.put _ (some 125) _ = _
          simp only [Act.put, List.setIfInBounds_toArray, List.set_cons_zero, List.set_cons_succ, i64_w, i32_w]
          rfl
         exact norm_ (by simp only [putAll, Act.put, List.setIfInBounds_toArray, List.set_cons_zero, List.set_cons_succ]) (hCont (v122, v125, g127) _ ⟨hHeld, HD.out, HR125.out, B127.out⟩)
       ·skip
        refine lit_blk_step ?hg (N := 127) ?hd (cs := #[.int .i64 0, .slice (some ⟨gr, 0, none⟩) samples.length cr]) (t := 62) (n := 1) ?hr ?_; (case hd => rfl); (case hg => rfl); (case hr => first | (go_simp; done) | (go_simp; rfl))
        intro g127 hg127 wC hB127 hb
        have B127 := Aside0.mk hB127
        replace HD := Aside0.mk (below_step HD.out hb)
        clear hg127 hB127 hb
        refine hK.out _ _ ⟨(blk_cell (blk_below (g := gx + 1) (o := .cells #[.int .i64 0, .slice (some ⟨gr, 0, none⟩) samples.length cr] 62 (0, 0)) BM.out HD.out) 0).trans rfl, (blk_cell (blk_below (g := gx + 1) (o := .cells #[.int .i64 0, .slice (some ⟨gr, 0, none⟩) samples.length cr] 62 (0, 0)) BM.out HD.out) 1).trans rfl, (blk_cell (blk_below (g := W.heap.size) (o := .cells #[.slice A0 lots.length c0, .slice A1 samples.length c1, .int .i64 spread, .slice A3 labs.length c3] 26 (0, 0)) B3z.out HD.out) 3).trans rfl⟩ (fun hHeld => ?_)
        clear hK K
        refine norm_ (a' := ?_) ?_ ?_
        rotate_left
        ·show Act.put _ (some 127) _ = _
         simp only [Act.put, List.setIfInBounds_toArray, List.set_cons_zero, List.set_cons_succ, i64_w, i32_w]
         rfl
        refine one_ (i := 0) (N := some 122) #[true, true, true, false, true, true, false, false, false] rfl rfl (one_of HT_.out (by kernel_rfl)) (by decide) (fun K hK => ?_)
        refine Kd.R_lit_step (Kd.raw 2) (w0 := w10) w10.heap.size 62 ?hg (N := 122) ?hd (xs := ([] : List (List Value))) (inner := []) (ok := fun _ => True) (okp := fun _ => True) ?hr ?hp (fun _ hk => hk) trivial HD.out (below_size HD.out) (by simp) ?_; (case hd => rfl); (case hg => rfl); (case hr => first | (go_simp; done) | (go_simp; rfl)); (case hp => exact (Reps.none _ _))
        intro v122 wA ho hb hg hnew
        have HR122 := Aside0.mk ho
        have HNE : some g127 ≠ v122.ownBlock := by obtain ⟨b9, hb1, hb2⟩ := hnew; rw [hb1]; intro h_; injection h_ with h_; have := blk_lt B127.out; omega
        replace B127 := Aside0.mk (blk_grown (g := g127) (o := .cells #[.int .i64 0, .slice (some ⟨gr, 0, none⟩) samples.length cr] 62 (0, 0)) B127.out hg (by simp))
        replace HD := Aside0.mk hb
        clear ho hb hg hnew
        refine hK.out _ _ ⟨(blk_cell (blk_below (g := gx + 1) (o := .cells #[.int .i64 0, .slice (some ⟨gr, 0, none⟩) samples.length cr] 62 (0, 0)) BM.out HD.out) 0).trans rfl, (blk_cell (blk_below (g := gx + 1) (o := .cells #[.int .i64 0, .slice (some ⟨gr, 0, none⟩) samples.length cr] 62 (0, 0)) BM.out HD.out) 1).trans rfl, (blk_cell (blk_below (g := W.heap.size) (o := .cells #[.slice A0 lots.length c0, .slice A1 samples.length c1, .int .i64 spread, .slice A3 labs.length c3] 26 (0, 0)) B3z.out HD.out) 3).trans rfl⟩ (fun hHeld => ?_)
        clear hK K
        refine norm_ (a' := ?_) ?_ ?_
        rotate_left
        ·show Act.put _ (some 122) _ = _
         simp only [Act.put, List.setIfInBounds_toArray, List.set_cons_zero, List.set_cons_succ, i64_w, i32_w]
         rfl
        refine one_ (i := 3) (N := some 125) #[true, true, true, true, true, true, false, false, false] rfl rfl (one_of HT_.out (by kernel_rfl)) (by decide) (fun K hK => ?_)
        refine Kd.R_append_rows_step (Kd.raw 2) (Rr := (Kd.raw 2).K _) (w0 := w10) w10.heap.size (by rfl) (.tmp 122) (.tmp 124) 24 62 (.agg #[(.int .i64 0), (.slice none 0 0)]) 32 rfl Try.underlying24 info62 rfl (by decide) (by omega) v122 [] rb A3 _ _ (fun _ => True) (fun _ => False) (by rfl) (by rfl) HR122.out (Kd.C_below HBC.out (below_step HB.out (below_step HBy.out HD.out))) (fun _ _ h => h) (fun _ h => h.elim) (fun _ _ => trivial) HD.out (below_size HD.out) (by simp only [List.length_nil]; omega) ?_
        intro v125 wB ho hb hg hat
        rw [List.nil_append] at ho
        have HR125 := Aside0.mk ho
        replace B127 := Aside0.mk (blk_grown (g := g127) (o := .cells #[.int .i64 0, .slice (some ⟨gr, 0, none⟩) samples.length cr] 62 (0, 0)) B127.out hg HNE)
        replace HD := Aside0.mk hb
        clear ho hb hg hat
        refine hK.out _ _ ⟨(blk_cell (blk_below (g := gx + 1) (o := .cells #[.int .i64 0, .slice (some ⟨gr, 0, none⟩) samples.length cr] 62 (0, 0)) BM.out HD.out) 0).trans rfl, (blk_cell (blk_below (g := gx + 1) (o := .cells #[.int .i64 0, .slice (some ⟨gr, 0, none⟩) samples.length cr] 62 (0, 0)) BM.out HD.out) 1).trans rfl, (blk_cell (blk_below (g := W.heap.size) (o := .cells #[.slice A0 lots.length c0, .slice A1 samples.length c1, .int .i64 spread, .slice A3 labs.length c3] 26 (0, 0)) B3z.out HD.out) 3).trans rfl⟩ (fun hHeld => ?_)
        clear hK K
        refine norm_ (a' := ?_) ?_ ?_
        rotate_left
        ·show Act.put _ (some 125) _ = _
         simp only [Act.put, List.setIfInBounds_toArray, List.set_cons_zero, List.set_cons_succ, i64_w, i32_w]
         rfl
        exact norm_ (by simp only [putAll, Act.put, List.setIfInBounds_toArray, List.set_cons_zero, List.set_cons_succ]) (hCont (v122, v125, g127) _ ⟨hHeld, HD.out, HR125.out, B127.out⟩)
      clear HD hHeld
      rintro ⟨v122, v125, g127⟩ wF ⟨hHeld, hD_, hR_, hB_⟩
      have HD := Aside0.mk hD_
      have HR125 := Aside0.mk hR_
      have B127 := Aside0.mk hB_
      clear hD_ hR_ hB_
      refine norm_ (a' := ?_) ?_ ?_
      rotate_left
      ·simp only [putAll, Act.put, List.setIfInBounds_toArray, List.set_cons_zero, List.set_cons_succ]
       rfl
      refine one_ (i := 6) (N := some 128) #[true, true, true, true, true, true, true, false, false] rfl rfl (one_of HT_.out (by kernel_rfl)) (by decide) (fun K hK => ?_)
      refine Kd.R_append_rows_step (Kd.raw 2) (Rr := (Kd.raw 2).K _) (w0 := w10) w10.heap.size (by rfl) (.tmp 125) (.tmp 127) 24 62 (.agg #[(.int .i64 0), (.slice none 0 0)]) 32 rfl Try.underlying24 info62 rfl (by decide) (by omega) v125 rb [[.int .i64 0, .slice (some ⟨gr, 0, none⟩) samples.length cr]] _ _ _ (fun _ => True) (fun _ => False) (by rfl) (by rfl) HR125.out (one_row B127.out rfl rfl) (fun _ _ h => h) (fun _ h => h.elim) (fun _ _ => trivial) HD.out (below_size HD.out) (by have := HBL.out; omega) ?_
      intro v128 wG ho hb hg hat
      obtain ⟨Ay, cy, ey⟩ := Kd.R_slice ho
      obtain rfl : v128 = .slice Ay L2.length cy := by rw [ey, ← HL2.out, List.length_append, List.length_append, HBL.out]; rfl
      have HR128 := Aside0.mk ho
      replace HD := Aside0.mk hb
      clear ho hb hg hat ey HR125 B127
      refine hK.out _ _ ⟨(blk_cell (blk_below (g := gx + 1) (o := .cells #[.int .i64 0, .slice (some ⟨gr, 0, none⟩) samples.length cr] 62 (0, 0)) BM.out HD.out) 0).trans rfl, (blk_cell (blk_below (g := gx + 1) (o := .cells #[.int .i64 0, .slice (some ⟨gr, 0, none⟩) samples.length cr] 62 (0, 0)) BM.out HD.out) 1).trans rfl, (blk_cell (blk_below (g := W.heap.size) (o := .cells #[.slice A0 lots.length c0, .slice A1 samples.length c1, .int .i64 spread, .slice A3 labs.length c3] 26 (0, 0)) B3z.out HD.out) 3).trans rfl⟩ (fun hHeld => ?_)
      clear hK K
      refine norm_ (a' := ?_) ?_ ?_
      rotate_left
      ·show Act.put _ (some 128) _ = _
       simp only [Act.put, List.setIfInBounds_toArray, List.set_cons_zero, List.set_cons_succ, i64_w, i32_w]
       rfl
      refine pure_ (i := 7) (N := some 129) (v := ?_) (a' := ?_) #[true, true, true, true, true, true, true, true, false] rfl rfl (any_of HT_.out (by kernel_rfl)) (fun _ _ _ h => h) (Or.inl ⟨by rfl, ?_⟩) ?_ ?_
      rotate_left
      ·intro w'
       go_simp
       with_reducible rfl
      rotate_left
      ·simp only [Act.put, List.setIfInBounds_toArray, List.set_cons_zero, List.set_cons_succ, i64_w, i32_w]
       rfl
      refine last_ (i := 8) (N := none) #[true, true, true, true, true, true, true, true, true] rfl rfl (one_of HT_.out (by kernel_rfl)) (by decide) (fun K hK => ?_)
      have hc8 := (blk_cell (blk_below (g := gx) (o := .cells #[.slice A0 lots.length c0, .slice A1 samples.length c1, .int .i64 spread, .slice A3 labs.length c3] 26 (0, 0)) BX.out HD.out) 3).trans rfl
      have hf8 := blk_frozen (blk_below (g := gx) (o := .cells #[.slice A0 lots.length c0, .slice A1 samples.length c1, .int .i64 spread, .slice A3 labs.length c3] 26 (0, 0)) BX.out HD.out) 3
      refine skip_ (w1 := ?_) (by rfl) rfl ?_ ?_
      rotate_left
      ·go_simp
       rfl
      refine hK.out _ _ ?_
      clear hK K
      refine done_ (done_of HT_.out (by kernel_rfl)) ?_
      clear hHeld hc8 hf8
      have hBx : Below w8.heap.size w8 (wG.setCell ⟨gx, 3, none⟩ (.slice Ay L2.length cy)) := below_set (below_step HBy.out HD.out) hgx
      have hBW : Below W.heap.size W (wG.setCell ⟨gx, 3, none⟩ (.slice Ay L2.length cy)) := below_step HB.out hBx
      have hXG := blk_below (g := gx) (o := .cells #[.slice A0 lots.length c0, .slice A1 samples.length c1, .int .i64 spread, .slice A3 labs.length c3] 26 (0, 0)) BX.out HD.out
      have hX3 := blk_put (cs := #[.slice A0 lots.length c0, .slice A1 samples.length c1, .int .i64 spread, .slice A3 labs.length c3]) (cs' := #[.slice A0 lots.length c0, .slice A1 samples.length c1, .int .i64 spread, .slice Ay L2.length cy]) hXG 3 (.slice Ay L2.length cy) rfl
      obtain ⟨u1, u2, u3⟩ := Kd.R_reads' (Kd.R_far (p := ⟨gx, 3, none⟩) (Kd.R_types HR128.out hXG (by decide)) (fun _ hk => hk.2) (.slice Ay L2.length cy))
      obtain ⟨t1, t2, t3⟩ := Kd.R_reads' (Kd.R_far (p := ⟨gx, 3, none⟩) (Kd.R_types (Kd.R_below HR.out HD.out) hXG (by decide)) (fun _ hk => hk.2) (.slice Ay L2.length cy))
      have hk2 : k62.K (wG.setCell ⟨gx, 3, none⟩ (.slice Ay L2.length cy)) ⟨0, oneRead samples.length kn n⟩ [.int .i64 0, .slice (some ⟨gr, 0, none⟩) samples.length cr] := by
       have h9 := k62_mk (wG.setCell ⟨gx, 3, none⟩ (.slice Ay L2.length cy)) ⟨0, oneRead samples.length kn n⟩ (c1 := cr) (by rw [oneRead_length]; exact t2) t3
       rw [oneRead_length] at h9
       exact h9
      have hlen2 : (rb ++ [([.int .i64 0, .slice (some ⟨gr, 0, none⟩) samples.length cr] : List Value)]).length = L2.length := by rw [← HL2.out, List.length_append, List.length_append, HBL.out]; rfl
      have hrs := rows_snoc HBL.out (fun j p hp => by obtain ⟨c, hc, hk⟩ := HBK.out j p hp; exact ⟨c, hc, k62.K_below hBW hk⟩) hk2
      rw [HL2.out] at hrs
      have hC2 : Kd.C k62 (wG.setCell ⟨gx, 3, none⟩ (.slice Ay L2.length cy)) Ay L2.length L2 := C_raw (d := k62) (rows := rb ++ [([.int .i64 0, .slice (some ⟨gr, 0, none⟩) samples.length cr] : List Value)]) hlen2 u3 hrs
      have HX : Aside0 (In26 (wG.setCell ⟨gx, 3, none⟩ (.slice Ay L2.length cy)) (.agg #[.slice A0 lots.length c0, .slice A1 samples.length c1, .int .i64 spread, .slice Ay L2.length cy]) A0 c0 lots A1 c1 samples spread Ay cy L2) := ⟨⟨rfl, Kd.C_below HI.out.r0 hBW, HI.out.h0, Kd.C_below HI.out.r1 hBW, HI.out.h1, hC2, u2, HI.out.a, HI.out.b, by have := HThX.out.c; omega, fun x hx => by have := HThX.out.d x hx; omega⟩⟩
      have HBz := Aside0.mk hBx
      have BX3 := Aside0.mk hX3
      have HOffz := Aside0.mk (Kd.C_below HOff.out hBx)
      have HSpz := Aside0.mk (Kd.C_below HSp.out hBx)
      replace HB := Aside0.mk hBW
      clear hBx hBW hXG hX3 u1 u2 u3 t1 t2 t3 hk2 hlen2 hC2 hrs BX BM HR HR128 HD HBy B3z
      generalize World.setCell wG ⟨gx, 3, none⟩ (.slice Ay L2.length cy) = w11 at HBz BX3 HOffz HSpz HB HX ⊢
      obtain ⟨x0, x1, x2, x3⟩ := cells4 BX3.out
      have lt_BX3 := blk_lt BX3.out
      go_upto_region 24 with (first | (go_at_call 20; (with_reducible refine (round_at (HX.out.below (by repeat (first | (with_reducible exact Below.refl _ _) | apply below_alloc | apply pw_below_drewN | apply below_drew1))) HThX.out).mono ?_); rintro e w12 ⟨u, rfl, hu, hb⟩; replace HB := Aside0.mk (below_step (by repeat (first | (with_reducible exact HB.out) | apply below_alloc | apply pw_below_drewN | apply below_drew1 | refine below_set ?_ (by omega))) hb); replace BX3 := Aside0.mk (blk_below (g := gx) (o := .cells #[.slice A0 lots.length c0, .slice A1 samples.length c1, .int .i64 spread, .slice Ay L2.length cy] 26 (0, 0)) (by (with_reducible repeat (first | exact BX3.out | refine blk_drewN ?_ _ | refine blk_drew ?_ | refine blk_alloc ?_ _))) hb); replace HX := Aside0.mk (HX.out.below (below_step (by repeat (first | (with_reducible exact Below.refl _ _) | apply below_alloc | apply pw_below_drewN | apply below_drew1)) hb)); replace HBz := Aside0.mk (below_step (by repeat (first | (with_reducible exact HBz.out) | apply below_alloc | apply pw_below_drewN | apply below_drew1 | refine below_set ?_ (by omega))) hb); (try replace HOffz := Aside0.mk (Kd.C_below HOffz.out (below_step (by repeat (first | (with_reducible exact Below.refl _ _) | apply below_alloc | apply pw_below_drewN | apply below_drew1)) hb))); (try replace HSpz := Aside0.mk (Kd.C_below HSpz.out (below_step (by repeat (first | (with_reducible exact Below.refl _ _) | apply below_alloc | apply pw_below_drewN | apply below_drew1)) hb))); (try replace HU := Aside0.mk (HU.out.below (below_step (by repeat (first | (with_reducible exact Below.refl _ _) | apply below_alloc | apply pw_below_drewN | apply below_drew1)) hb))); (try replace HLi := Aside0.mk (HLi.out.below (below_step (by repeat (first | (with_reducible exact Below.refl _ _) | apply below_alloc | apply pw_below_drewN | apply below_drew1)) hb))); clear hb; have HU := Aside0.mk hu; clear hu; (try clear x0 x1 x2 x3); (try clear lt_BX3); have lt_BX3 := blk_lt BX3.out; obtain ⟨x0, x1, x2, x3⟩ := cells4 BX3.out) | (go_at_call 22; (with_reducible refine (list_at (inL_mk4 hco (Kd.C_below HOffz.out (by repeat (first | (with_reducible exact Below.refl _ _) | apply below_alloc | apply pw_below_drewN | apply below_drew1)))) hln).mono ?_); rintro e w13 ⟨y, rfl, hy, hb⟩; replace HB := Aside0.mk (below_step (by repeat (first | (with_reducible exact HB.out) | apply below_alloc | apply pw_below_drewN | apply below_drew1 | refine below_set ?_ (by omega))) hb); replace BX3 := Aside0.mk (blk_below (g := gx) (o := .cells #[.slice A0 lots.length c0, .slice A1 samples.length c1, .int .i64 spread, .slice Ay L2.length cy] 26 (0, 0)) (by (with_reducible repeat (first | exact BX3.out | refine blk_drewN ?_ _ | refine blk_drew ?_ | refine blk_alloc ?_ _))) hb); replace HX := Aside0.mk (HX.out.below (below_step (by repeat (first | (with_reducible exact Below.refl _ _) | apply below_alloc | apply pw_below_drewN | apply below_drew1)) hb)); replace HBz := Aside0.mk (below_step (by repeat (first | (with_reducible exact HBz.out) | apply below_alloc | apply pw_below_drewN | apply below_drew1 | refine below_set ?_ (by omega))) hb); (try replace HOffz := Aside0.mk (Kd.C_below HOffz.out (below_step (by repeat (first | (with_reducible exact Below.refl _ _) | apply below_alloc | apply pw_below_drewN | apply below_drew1)) hb))); (try replace HSpz := Aside0.mk (Kd.C_below HSpz.out (below_step (by repeat (first | (with_reducible exact Below.refl _ _) | apply below_alloc | apply pw_below_drewN | apply below_drew1)) hb))); (try replace HU := Aside0.mk (HU.out.below (below_step (by repeat (first | (with_reducible exact Below.refl _ _) | apply below_alloc | apply pw_below_drewN | apply below_drew1)) hb))); (try replace HLi := Aside0.mk (HLi.out.below (below_step (by repeat (first | (with_reducible exact Below.refl _ _) | apply below_alloc | apply pw_below_drewN | apply below_drew1)) hb))); clear hb; have HLi := Aside0.mk hy; clear hy; (try clear x0 x1 x2 x3); (try clear lt_BX3); have lt_BX3 := blk_lt BX3.out; obtain ⟨x0, x1, x2, x3⟩ := cells4 BX3.out) | (go_at_call 21; (with_reducible refine (explains_at (HU.out.below (by repeat (first | (with_reducible exact Below.refl _ _) | apply below_alloc | apply pw_below_drewN | apply below_drew1))) (HLi.out.below (by repeat (first | (with_reducible exact Below.refl _ _) | apply below_alloc | apply pw_below_drewN | apply below_drew1))) hln).mono ?_); (rw [HEx.out]); rintro e w14 ⟨rfl, hb⟩; clear HU HLi; replace HB := Aside0.mk (below_step (by repeat (first | (with_reducible exact HB.out) | apply below_alloc | apply pw_below_drewN | apply below_drew1 | refine below_set ?_ (by omega))) hb); replace BX3 := Aside0.mk (blk_below (g := gx) (o := .cells #[.slice A0 lots.length c0, .slice A1 samples.length c1, .int .i64 spread, .slice Ay L2.length cy] 26 (0, 0)) (by (with_reducible repeat (first | exact BX3.out | refine blk_drewN ?_ _ | refine blk_drew ?_ | refine blk_alloc ?_ _))) hb); replace HX := Aside0.mk (HX.out.below (below_step (by repeat (first | (with_reducible exact Below.refl _ _) | apply below_alloc | apply pw_below_drewN | apply below_drew1)) hb)); replace HBz := Aside0.mk (below_step (by repeat (first | (with_reducible exact HBz.out) | apply below_alloc | apply pw_below_drewN | apply below_drew1 | refine below_set ?_ (by omega))) hb); (try replace HOffz := Aside0.mk (Kd.C_below HOffz.out (below_step (by repeat (first | (with_reducible exact Below.refl _ _) | apply below_alloc | apply pw_below_drewN | apply below_drew1)) hb))); (try replace HSpz := Aside0.mk (Kd.C_below HSpz.out (below_step (by repeat (first | (with_reducible exact Below.refl _ _) | apply below_alloc | apply pw_below_drewN | apply below_drew1)) hb))); clear hb; (try clear x0 x1 x2 x3); (try clear lt_BX3); have lt_BX3 := blk_lt BX3.out; obtain ⟨x0, x1, x2, x3⟩ := cells4 BX3.out))
      clear x0 x1 x2 x3 lt_BX3
      obtain ⟨adS2, hAS2, hx0, hx1⟩ := at_T46 HSpz.out (kn : Int) (by omega) (show (kn : Int) < (sp.length : Int) by omega)
      injection hAS2 with hAS2
      subst hAS2
      rw [Int.toNat_natCast] at hx0 hx1
      rw [HLo.out] at hx0
      rw [HHi.out] at hx1
      have q0 : (0 ≤ (kn : Int)) = True := eq_true (by omega)
      have q1 : ((kn : Int) < (sp.length : Int)) = True := eq_true (by omega)
      have q2 : (kn < sp.length) = True := eq_true (by omega)
      refine start_ (n := 18) (S := fun w' => w'.cell? (adS.add (kn * 2)) = some (.int .i64 lo) ∧ w'.cell? ⟨(adS.add (kn * 2)).block, (adS.add (kn * 2)).off + 1, none⟩ = some (.int .i64 hi)) (ds := []) #[false, false, false, false, false, false, false, false, false, false, false, false, false, false, false, false, false, false] (by kernel_rfl) rfl rfl ⟨hx0, hx1⟩ (fun hHeld => ?_)
      refine with_tabW en.tab24 en.bits24 (fun HT_ HW_ => ?_)
      replace HBz := Aside0.mk (below_drew1 HBz.out)
      generalize w14.drew = w15 at HBz hx0 hx1 hHeld ⊢
      refine pure_ (i := 0) (N := some 138) (v := ?_) (a' := ?_) #[true, false, false, false, false, false, false, false, false, false, false, false, false, false, false, false, false, false] rfl rfl (any_of HT_.out (by kernel_rfl)) (fun _ _ _ h => h) (Or.inl ⟨by rfl, ?_⟩) ?_ ?_
      rotate_left
      ·intro w'
       go_simp
       with_reducible rfl
      rotate_left
      ·simp only [Act.put, List.setIfInBounds_toArray, List.set_cons_zero, List.set_cons_succ, i64_w, i32_w]
       rfl
      refine pure_ (i := 1) (N := some 139) (v := ?_) (a' := ?_) #[true, true, false, false, false, false, false, false, false, false, false, false, false, false, false, false, false, false] rfl rfl (any_of HT_.out (by kernel_rfl)) (fun _ _ _ h => h) (Or.inl ⟨by rfl, ?_⟩) ?_ ?_
      rotate_left
      ·intro w'
       go_simp
       with_reducible rfl
      rotate_left
      ·simp only [Act.put, List.setIfInBounds_toArray, List.set_cons_zero, List.set_cons_succ, i64_w, i32_w]
       rfl
      refine pure_ (i := 2) (N := some 140) (v := ?_) (a' := ?_) #[true, true, true, false, false, false, false, false, false, false, false, false, false, false, false, false, false, false] rfl rfl (any_of HT_.out (by kernel_rfl)) (fun _ _ _ h => h) (Or.inl ⟨by rfl, ?_⟩) ?_ ?_
      rotate_left
      ·intro w'
       go_simp
       with_reducible rfl
      rotate_left
      ·simp only [Act.put, List.setIfInBounds_toArray, List.set_cons_zero, List.set_cons_succ, i64_w, i32_w]
       rfl
      refine pure_ (i := 3) (N := some 141) (v := ?_) (a' := ?_) #[true, true, true, true, false, false, false, false, false, false, false, false, false, false, false, false, false, false] rfl rfl (any_of HT_.out (by kernel_rfl)) (fun _ _ _ h => h) (Or.inl ⟨by rfl, ?_⟩) ?_ ?_
      rotate_left
      ·intro w'
       go_simp
       with_reducible rfl
      rotate_left
      ·simp only [Act.put, List.setIfInBounds_toArray, List.set_cons_zero, List.set_cons_succ, i64_w, i32_w]
       rfl
      refine pure_ (i := 4) (N := some 142) (v := ?_) (a' := ?_) #[true, true, true, true, true, false, false, false, false, false, false, false, false, false, false, false, false, false] rfl rfl (any_of HT_.out (by kernel_rfl)) (fun _ _ _ h => h) (Or.inl ⟨by rfl, ?_⟩) ?_ ?_
      rotate_left
      ·intro w'
       go_simp
       with_reducible rfl
      rotate_left
      ·simp only [Act.put, List.setIfInBounds_toArray, List.set_cons_zero, List.set_cons_succ, i64_w, i32_w]
       rfl
      refine pure_ (i := 5) (N := some 143) (v := ?_) (a' := ?_) #[true, true, true, true, true, true, false, false, false, false, false, false, false, false, false, false, false, false] rfl rfl (any_of HT_.out (by kernel_rfl)) (fun _ _ _ h => h) (Or.inl ⟨by rfl, ?_⟩) ?_ ?_
      rotate_left
      ·intro w'
       go_simp
       with_reducible rfl
      rotate_left
      ·simp only [Act.put, List.setIfInBounds_toArray, List.set_cons_zero, List.set_cons_succ, i64_w, i32_w]
       rfl
      refine pure_ (i := 6) (N := some 144) (v := ?_) (a' := ?_) #[true, true, true, true, true, true, true, false, false, false, false, false, false, false, false, false, false, false] rfl rfl (any_of HT_.out (by kernel_rfl)) (fun _ _ _ h => h) (Or.inl ⟨by rfl, ?_⟩) ?_ ?_
      rotate_left
      ·intro w'
       go_simp
       with_reducible rfl
      rotate_left
      ·simp only [Act.put, List.setIfInBounds_toArray, List.set_cons_zero, List.set_cons_succ, i64_w, i32_w]
       rfl
      refine pure_ (i := 7) (N := some 145) (v := ?_) (a' := ?_) #[true, true, true, true, true, true, true, true, false, false, false, false, false, false, false, false, false, false] rfl rfl (any_of HT_.out (by kernel_rfl)) (fun _ _ _ h => h) (Or.inl ⟨by rfl, ?_⟩) ?_ ?_
      rotate_left
      ·intro w'
       go_simp
       with_reducible rfl
      rotate_left
      ·simp only [Act.put, List.setIfInBounds_toArray, List.set_cons_zero, List.set_cons_succ, i64_w, i32_w]
       rfl
      refine pure_ (i := 8) (N := some 146) (v := ?_) (a' := ?_) #[true, true, true, true, true, true, true, true, true, false, false, false, false, false, false, false, false, false] rfl rfl (any_of HT_.out (by kernel_rfl)) (fun _ _ _ h => h) (Or.inl ⟨by rfl, ?_⟩) ?_ ?_
      rotate_left
      ·intro w'
       go_simp
       with_reducible rfl
      rotate_left
      ·simp only [Act.put, List.setIfInBounds_toArray, List.set_cons_zero, List.set_cons_succ, i64_w, i32_w]
       rfl
      refine pure_ (i := 10) (N := some 148) (v := ?_) (a' := ?_) #[true, true, true, true, true, true, true, true, true, false, true, false, false, false, false, false, false, false] rfl rfl (any_of HT_.out (by kernel_rfl)) (fun _ _ _ h => h) (Or.inl ⟨by rfl, ?_⟩) ?_ ?_
      rotate_left
      ·intro w'
       go_simp
       with_reducible rfl
      rotate_left
      ·simp only [Act.put, List.setIfInBounds_toArray, List.set_cons_zero, List.set_cons_succ, i64_w, i32_w]
       rfl
      refine pure_ (i := 11) (N := some 149) (v := ?_) (a' := ?_) #[true, true, true, true, true, true, true, true, true, false, true, true, false, false, false, false, false, false] rfl rfl (any_of HT_.out (by kernel_rfl)) (fun _ _ _ h => h) (Or.inl ⟨by rfl, ?_⟩) ?_ ?_
      rotate_left
      ·intro w'
       go_simp
       with_reducible rfl
      rotate_left
      ·simp only [Act.put, List.setIfInBounds_toArray, List.set_cons_zero, List.set_cons_succ, i64_w, i32_w]
       rfl
      refine pure_ (i := 12) (N := some 150) (v := ?_) (a' := ?_) #[true, true, true, true, true, true, true, true, true, false, true, true, true, false, false, false, false, false] rfl rfl (any_of HT_.out (by kernel_rfl)) (fun _ _ _ h => h) (Or.inl ⟨by rfl, ?_⟩) ?_ ?_
      rotate_left
      ·intro w'
       go_simp
       with_reducible rfl
      rotate_left
      ·simp only [Act.put, List.setIfInBounds_toArray, List.set_cons_zero, List.set_cons_succ, i64_w, i32_w]
       rfl
      refine pure_ (i := 13) (N := some 151) (v := ?_) (a' := ?_) #[true, true, true, true, true, true, true, true, true, false, true, true, true, true, false, false, false, false] rfl rfl (any_of HT_.out (by kernel_rfl)) (fun _ _ _ h => h) (Or.inl ⟨by rfl, ?_⟩) ?_ ?_
      rotate_left
      ·intro w'
       go_simp
       with_reducible rfl
      rotate_left
      ·simp only [Act.put, List.setIfInBounds_toArray, List.set_cons_zero, List.set_cons_succ, i64_w, i32_w]
       rfl
      refine take_ (i := 9) (N := some 147) (v := ?_) (a' := ?_) #[true, true, true, true, true, true, true, true, true, true, true, true, true, true, false, false, false, false] rfl rfl (take_ofW HT_.out HW_.out (by kernel_rfl)) (fun _ _ _ h => h) (Or.inl ⟨by rfl, ?_⟩) hHeld ?_ ?_
      rotate_left
      ·rintro w' ⟨s0, s1⟩
       go_simp
       with_reducible rfl
      rotate_left
      ·simp only [Act.put, List.setIfInBounds_toArray, List.set_cons_zero, List.set_cons_succ, i64_w, i32_w]
       rfl
      refine take_ (i := 14) (N := some 152) (v := ?_) (a' := ?_) #[true, true, true, true, true, true, true, true, true, true, true, true, true, true, true, false, false, false] rfl rfl (take_ofW HT_.out HW_.out (by kernel_rfl)) (fun _ _ _ h => h) (Or.inl ⟨by rfl, ?_⟩) hHeld ?_ ?_
      rotate_left
      ·rintro w' ⟨s0, s1⟩
       go_simp
       with_reducible rfl
      rotate_left
      ·simp only [Act.put, List.setIfInBounds_toArray, List.set_cons_zero, List.set_cons_succ, i64_w, i32_w]
       rfl
      refine one_ (i := 15) (N := some 153) #[true, true, true, true, true, true, true, true, true, true, true, true, true, true, true, true, false, false] rfl rfl (one_of HT_.out (by kernel_rfl)) (by decide) (fun K hK => ?_)
      refine goes_ Try.func33 (by kernel_rfl) rfl #[.int .i64 n, .int .i64 lo, .int .i64 hi] (by rfl) rfl rfl (by simp only [List.map_toArray, List.map_cons, List.map_nil]; rfl) ?_
      with_reducible refine (HIn2.out _).mono ?_
      rintro e w16 ⟨rfl, hw16⟩
      refine ⟨_, rfl, ?_⟩
      obtain rfl := hw16.symm
      refine hK.out _ _ ⟨hHeld.1, hHeld.2⟩ (fun hHeld => ?_)
      clear hK K
      refine norm_ (a' := ?_) ?_ ?_
      rotate_left
      ·show Act.put _ (some 153) _ = _
       simp only [Act.put, List.setIfInBounds_toArray, List.set_cons_zero, List.set_cons_succ, i64_w, i32_w]
       rfl
      refine pure_ (i := 16) (N := some 154) (v := ?_) (a' := ?_) #[true, true, true, true, true, true, true, true, true, true, true, true, true, true, true, true, true, false] rfl rfl (any_of HT_.out (by kernel_rfl)) (fun _ _ _ h => h) (Or.inl ⟨by rfl, ?_⟩) ?_ ?_
      rotate_left
      ·intro w'
       go_simp
       with_reducible rfl
      rotate_left
      ·simp only [Act.put, List.setIfInBounds_toArray, List.set_cons_zero, List.set_cons_succ, i64_w, i32_w]
       rfl
      refine pure_ (i := 17) (N := some 155) (v := ?_) (a' := ?_) #[true, true, true, true, true, true, true, true, true, true, true, true, true, true, true, true, true, true] rfl rfl (any_of HT_.out (by kernel_rfl)) (fun _ _ _ h => h) (Or.inl ⟨by rfl, ?_⟩) ?_ ?_
      rotate_left
      ·intro w'
       go_simp
       with_reducible rfl
      rotate_left
      ·simp only [Act.put, List.setIfInBounds_toArray, List.set_cons_zero, List.set_cons_succ, i64_w, i32_w]
       rfl
      refine done_ (done_of HT_.out (by kernel_rfl)) ?_
      go_wp2
      go_roundw
      case rel => exact ⟨i + 1, by omega, by go_num, HBz⟩
      case measure => simp [intOf]; omega
   ·have hw1 : withinB n 0 1000 = false := by
     unfold withinB
     by_cases h0 : 0 ≤ n
     ·rw [decide_eq_false (show ¬ n ≤ 1000 by omega), Bool.and_false]
     ·rw [decide_eq_false h0, Bool.false_and]
    rw [hw1] at HIn
    clear hw1 hin
    go_wp2_with (go_at_call 33; (with_reducible refine (HIn.out _).mono ?_); rintro e w9 ⟨rfl, hw9⟩; obtain rfl := hw9.symm)
    go_roundw
    case rel => exact ⟨i + 1, by omega, by go_num, HBr⟩
    case measure => simp [intOf]; omega
  ·go_wp2_with (first | (go_at_call 18; (with_reducible refine (wakes_any _).mono ?_); rintro e w13 ⟨rfl, hb⟩; replace HBr := Aside0.mk (below_step (by repeat (first | (with_reducible exact HBr.out) | apply below_alloc | apply pw_below_drewN | apply below_drew1 | refine below_set ?_ (by omega))) hb); clear hb))
   go_ret
   exact ⟨rfl, below_step HB.out HBr.out⟩
end Go.Proofs.Ytcpbhklaffgokaa.Q
namespace Go.Proofs.Ytcpbhklaffgokaa.Q
open Go.ChangeShapes Go.WideShapes Go.ChangeAt Go.RowKit Go.Deep Go.Joins Go.Proofs.YtcpbhklaffgokaaW.PrintWords Go.Proofs.YtcpbhklaffgokaaW.PrintLast Go.Proofs.YtcpbhklaffgokaaW.PrintMore
set_option linter.unusedVariables false
set_option linter.unusedSimpArgs false
theorem u16_wf {b : Int} (h : (Lit.int .u16 b).wf = true) : 0 ≤ b ∧ b < 65536 := by
 simp [Lit.wf, IntKind.min, IntKind.max, IntKind.signed, IntKind.bits] at h
 omega
end Go.Proofs.Ytcpbhklaffgokaa.Q
namespace Go.Proofs.Ytcpbhklaffgokaa.Q
open Go.RowKit Go.Proofs.YtcpbhklaffgokaaW.PrintWords Go.Proofs.YtcpbhklaffgokaaW.PrintLast Go.Proofs.YtcpbhklaffgokaaW.PrintMore
set_option linter.unusedVariables false
set_option linter.unusedSimpArgs false
theorem off_beyond (n : Nat) (bits : Int) : offOf (chosenF n bits) n = false := by
 unfold offOf
 rw [Bool.eq_false_iff]
 intro h
 have h2 := (chosenF_mem n bits _).1 (List.contains_iff_mem.1 h)
 omega
theorem ends_rising (n : Nat) (bits : Int) : risingB (n + 1) (chosenF n bits) = true :=
 rising_of ((upto_pairwise n).filter _) (fun x hx => by have := (chosenF_mem n bits x).1 hx; omega)
theorem RoundEnds_walk (A0 : Option Addr) (c0 : Nat) (lots : List S44) (A1 : Option Addr) (c1 : Nat) (samples : List Int) (spread : Int) (A3 : Option Addr) (c3 : Nat) (labs : List S62) (bits sample value : Int) (W : World) {v : Value} (hi : In26 W v A0 c0 lots A1 c1 samples spread A3 c3 labs)
  (wb : (Lit.int .u8 bits).wf = true) (ws : (Lit.int .u8 sample).wf = true) (wv : (Lit.int .u16 value).wf = true) :
  Calls Try.prog 8 #[.agg #[.slice A0 lots.length c0, .slice A1 samples.length c1, .int .i64 spread, .slice A3 labs.length c3], .int .u8 bits, .int .u8 sample, .int .u16 value] W fun e W' => e = .returned (.bool true) ∧ Below W.heap.size W W' := by
 obtain ⟨b, hb, ht⟩ := ready_ev lots samples spread labs hi.sz
 cases b with
 | false => exact ends_no hi bits sample value hb
 | true =>
  obtain ⟨hth, hok⟩ := ht rfl
  by_cases h5 : labs.length ≤ 5
  ·by_cases hs : samples.length = 0
   ·exact ends_none hi bits sample value hb h5 hs
   ·obtain ⟨s0, s1⟩ := u8_wf ws
    obtain ⟨v0, v1⟩ := u16_wf wv
    have k0 := Int.tmod_nonneg (samples.length : Int) s0
    have k1 := Int.tmod_lt_of_pos sample (show (0 : Int) < samples.length by omega)
    obtain ⟨kn, hk⟩ : ∃ kn : Nat, Int.tmod sample (samples.length : Int) = (kn : Int) := ⟨(Int.tmod sample (samples.length : Int)).toNat, by omega⟩
    have hK : kn < samples.length := by omega
    have hr : risingB (labs.map m75).length (chosenF labs.length bits) = true := by rw [List.length_map]; exact chosenF_rising _ _
    have hs := spansR_ok hok hr
    have hcl := chosenF_length labs.length bits
    cases hcan : canF (lots.map m46) samples spread (labs.map m75) (offOf (chosenF labs.length bits)) with
    | false =>
     rw [hcan, if_neg (by simp)] at hs
     exact ends_fail hi bits sample value hb hth h5 s0 s1 v0 v1 kn hK hk _ rfl (by omega) hs
    | true =>
     rw [hcan, if_pos rfl] at hs
     have hsl := spans_length hok _ (-1) 0 hcan
     have hiff := fun v => spans_iff hok (offOf (chosenF labs.length bits)) (-1) 0 hcan kn hK v
     obtain ⟨w, hw⟩ := spans_some hok (offOf (chosenF labs.length bits)) (-1) 0 hcan kn hK
     have hrd : rd_T46 (spansF (lots.map m46) samples spread (labs.map m75) (offOf (chosenF labs.length bits)) (-1) 0).1 (kn : Int) = (spansF (lots.map m46) samples spread (labs.map m75) (offOf (chosenF labs.length bits)) (-1) 0).1.getD kn z46 := by unfold rd_T46; rw [Int.toNat_natCast]
     have hfe := fun n h0 h1 => ends_can hok (by rw [List.length_map]; exact h5) kn hK n h0 h1 (offOf (chosenF labs.length bits)) (by rw [List.length_map]; exact off_beyond _ _) hcan
     generalize (spansF (lots.map m46) samples spread (labs.map m75) (offOf (chosenF labs.length bits)) (-1) 0).1 = sp at hs hsl hiff hw hrd hfe
     rw [← hrd] at hiff hw hfe
     generalize hr2 : rd_T46 sp (kn : Int) = r at hrd hiff hw hfe
     have hbd : ∀ x, inR x r → -200 ≤ x ∧ x ≤ 1200 := by
      intro x hx
      obtain ⟨_, u, h2, _, h4, h5⟩ := (hiff x).1 hx
      obtain ⟨q0, q1⟩ := smp_lt hok kn hK
      have hm : (lots.map m46).getD (samples.getD kn 0).toNat z46 ∈ lots.map m46 := by
       rw [List.getD_eq_getElem?_getD, List.getElem?_eq_getElem q1]
       exact List.getElem_mem _
      have := hok.lot _ hm
      have := hok.sp1
      unfold inR at h2
      omega
     have hle : r.f0 ≤ r.f1 := Int.le_trans hw.1 hw.2
     have b0 := hbd r.f0 ⟨Int.le_refl _, hle⟩
     have b1 := hbd r.f1 ⟨hle, Int.le_refl _⟩
     refine ends_at hi bits sample value hb hth h5 s0 s1 v0 v1 kn hK hk _ rfl (by omega) hok sp hs (by omega) (by omega) r.f0 r.f1 (by rw [hr2]) (by rw [hr2]) (by omega) (by omega) (by omega) (by omega) (fun n h0 h1 => ⟨⟨hth.a, hth.b, by rw [List.length_append]; simp only [List.length_cons, List.length_nil]; omega, fun x hx => ?_⟩, ?_⟩)
     ·rcases List.mem_append.1 hx with hx | hx
      ·exact hth.d x hx
      ·rw [List.mem_singleton.1 hx]
       show (oneRead samples.length kn n).length ≤ 10
       rw [oneRead_length]
       exact hth.b
     ·have em : (labs ++ [(⟨0, oneRead samples.length kn n⟩ : S62)]).map m75 = labs.map m75 ++ [⟨0, oneRead samples.length kn n⟩] := by rw [List.map_append]; rfl
      rw [em]
      have hok' := ends_ok hok (by rw [List.length_map]; exact h5) kn n h0 h1
      have hr' : risingB (labs.map m75 ++ [(⟨0, oneRead samples.length kn n⟩ : S75)]).length (chosenF labs.length bits) = true := by
       rw [List.length_append, List.length_map]
       exact ends_rising _ _
      rw [explainsF_ok hok' hr']
      refine Prod.ext ?_ rfl
      show canF _ _ _ _ _ = _
      rw [Bool.eq_iff_iff, hfe n h0 h1]
      unfold withinB inR
      rw [Bool.and_eq_true, decide_eq_true_eq, decide_eq_true_eq]
  ·exact ends_many hi bits sample value hb (by omega)
end Go.Proofs.Ytcpbhklaffgokaa.Q
