import Derived.Test.YtcpbhklaffgokaaH12
import Derived.Deep.RegionHeld3
namespace Go.Proofs.Ytcpbhklaffgokaa.Q
open Go.RowKit Go.Proofs.YtcpbhklaffgokaaW.PrintWords Go.Proofs.YtcpbhklaffgokaaW.PrintLast Go.Proofs.YtcpbhklaffgokaaW.PrintMore
set_option linter.unusedVariables false
set_option linter.unusedSimpArgs false
/-- the lists that begin with l, go on with so many more from one on, and can -/
def fromF (can : List Int → Bool) (n : Nat) : Nat → List Int → Nat → List (List Int)
  | 0, l, _ => if can l = true then [l] else []
  | m + 1, l, next => (List.range' next (n - next)).flatMap fun (k : Nat) => fromF can n m (l ++ [(k : Int)]) (k + 1)
/-- the loop's part up to k -/
def fromK (can : List Int → Bool) (n m : Nat) (l : List Int) (next k : Nat) : List (List Int) := (List.range' next (k - next)).flatMap fun (k : Nat) => fromF can n m (l ++ [(k : Int)]) (k + 1)
theorem fromK_start (can : List Int → Bool) (n m : Nat) (l : List Int) (next : Nat) : fromK can n m l next next = [] := by simp [fromK]
theorem fromK_end (can : List Int → Bool) (n m : Nat) (l : List Int) (next : Nat) : fromK can n m l next n = fromF can n (m + 1) l next := rfl
theorem fromK_step (can : List Int → Bool) (n m : Nat) (l : List Int) (next k : Nat) (h : next ≤ k) : fromK can n m l next (k + 1) = fromK can n m l next k ++ fromF can n m (l ++ [(k : Int)]) (k + 1) := by
  unfold fromK
  rw [show k + 1 - next = (k - next) + 1 by omega, List.range'_concat, List.flatMap_append]
  simp [show next + (k - next) = k by omega]
theorem fromF_length (can : List Int → Bool) (n : Nat) (hn : n ≤ 6) : ∀ (m : Nat) (l : List Int) (next : Nat), (fromF can n m l next).length ≤ 6 ^ m := by
  intro m
  induction m with
  | zero => intro l next; simp only [fromF]; split <;> simp
  | succ m ih =>
    intro l next
    simp only [fromF, List.length_flatMap]
    have : ∀ xs : List Nat, (xs.map fun (k : Nat) => (fromF can n m (l ++ [(k : Int)]) (k + 1)).length).sum ≤ xs.length * 6 ^ m := by
      intro xs
      induction xs with
      | nil => simp
      | cons x xs ih2 =>
        have h1 := ih (l ++ [(x : Int)]) (x + 1)
        simp only [List.map_cons, List.sum_cons, List.length_cons, Nat.add_mul, Nat.one_mul]
        omega
    have h2 := this (List.range' next (n - next))
    rw [List.length_range'] at h2
    have h3 : (n - next) * 6 ^ m ≤ 6 * 6 ^ m := Nat.mul_le_mul_right _ (by omega)
    rw [Nat.pow_succ, Nat.mul_comm]
    omega
theorem fromK_length (can : List Int → Bool) (n m : Nat) (hn : n ≤ 6) (l : List Int) (next k : Nat) : (fromK can n m l next k).length ≤ (k - next) * 6 ^ m := by
  unfold fromK
  rw [List.length_flatMap]
  have : ∀ xs : List Nat, (xs.map fun (k : Nat) => (fromF can n m (l ++ [(k : Int)]) (k + 1)).length).sum ≤ xs.length * 6 ^ m := by
    intro xs
    induction xs with
    | nil => simp
    | cons x xs ih2 =>
      have h1 := fromF_length can n hn m (l ++ [(x : Int)]) (x + 1)
      simp only [List.map_cons, List.sum_cons, List.length_cons, Nat.add_mul, Nat.one_mul]
      omega
  have h2 := this (List.range' next (k - next))
  rwa [List.length_range'] at h2
theorem offOf_push (l : List Int) (k : Nat) (j : Nat) : offOf (l ++ [(k : Int)]) j = (offOf l j || decide (j = k)) := by
  unfold offOf
  rw [List.contains_append]
  congr 1
  rw [Bool.eq_iff_iff]
  simp
  omega
theorem push_set (l : List Int) (k : Nat) (hk : k < 6) : ([.bool (offOf l 0), .bool (offOf l 1), .bool (offOf l 2), .bool (offOf l 3), .bool (offOf l 4), .bool (offOf l 5)] : List Value).set k (.bool true) =
    [.bool (offOf (l ++ [(k : Int)]) 0), .bool (offOf (l ++ [(k : Int)]) 1), .bool (offOf (l ++ [(k : Int)]) 2), .bool (offOf (l ++ [(k : Int)]) 3), .bool (offOf (l ++ [(k : Int)]) 4), .bool (offOf (l ++ [(k : Int)]) 5)] := by
  have h := congrArg Array.toList (off_set (offOf l) k hk)
  simp only [offOf_push]
  simpa using h
abbrev kll : Kd (List Int) := Kd.slice 3 (Kd.int .i64)
/-- rows of one's own, where all blocks but a map are as they were -/
theorem R_kb {α : Type} {d : Kd α} {e base n mb : Nat} {ok : Nat → Prop} {v : Value} {xs : List α} {W W' : World} {es : Array MapEntry} {c : Nat} (h : d.R e W base ok v xs) (hk : Kb n mb W W') (hn : n = W.heap.size) (hm : W.heap[mb]? = some (.map es c)) : d.R e W' base ok v xs := by
  subst hn
  refine Kd.R_mono (Kd.R_step (Kd.R_bound h) fun k hk1 hlt => hk.block k hlt ?_) (fun _ hk => hk.1)
  rintro rfl
  obtain ⟨_, _, _, q, _, cells, hc⟩ := hk1
  rw [hm] at hc
  cases hc
/-- rows of one's own, where a cell of a block of another type has been written -/
theorem R_cellT {α : Type} {d : Kd α} {e base g i t : Nat} {ok : Nat → Prop} {v u : Value} {xs : List α} {W : World} {cs : Array Value} (h : d.R e W base ok v xs) (hg : W.heap[g]? = some (.cells cs t (0, 0))) (ht : ∀ q, q ∈ e :: d.E → q ≠ t) : d.R e (W.setCell ⟨g, i, none⟩ u) base ok v xs := by
  refine Kd.R_mono (Kd.R_step (Kd.R_bound h) fun k hk1 hlt => Below.heap_setCell W _ _ _ ?_) (fun _ hk => hk.1)
  rintro rfl
  obtain ⟨_, _, _, q, hq, cells, hc⟩ := hk1
  have : some (Obj.cells cs t (0, 0)) = some (Obj.cells cells q (0, 0)) := hg.symm.trans hc
  injection this with this
  injection this with _ h2
  exact ht q hq h2.symm
/-- 'append(l, k)': the new row is one's own; the old one is as it was, too -/
theorem app3 {P : Program} {W : World} {base : Nat} {ok : Nat → Prop} {v : Value} {l : List Int} {i : TypeInfo} {z : Value} {t ty : TypeId} (ht : P.underlying t = some (.slice 3)) (hi : P.info? 3 = some i) (hz : i.zero = some z) (hs : i.size = 1) (hby : i.bytes = 8) (hzs : z.cells.size = 1)
    (h : (Kd.int .i64).R 3 W base ok v l) (ga c : Nat) (k : Int) (hk : W.cell? ⟨ga, 0, none⟩ = some (.int .i64 k)) (hl : l.length ≤ 1000) (hb : base ≤ W.heap.size) :
    ∃ v' W', (Builtin.append_ #[t, t] ty #[v, .slice (some ⟨ga, 0, none⟩) 1 c]).run P W = .ok v' W' ∧ (Kd.int .i64).R 3 W' base (fun _ => True) v' (l ++ [k]) ∧ (Kd.int .i64).R 3 W' base ok v l ∧ W.grownBy W' v.ownBlock ∧ ((∃ A c', v = .slice A l.length c' ∧ v' = .slice A (l.length + 1) c') ∨ v'.ownBlock = some W.heap.size) := by
  have ho := Kd.own_of_R h
  have hnews : ∀ j u, ([.int .i64 k] : List Value)[j]? = some u → W.cell? ((⟨ga, 0, none⟩ : Addr).add j) = some u := by
    intro j u hj
    match j, hj with
    | 0, hj => simp at hj; subst hj; simp [Addr.add]; exact hk
  have h1 : ∀ u ∈ ([.int .i64 k] : List Value), u.oneCell' = true := by intro u hu; rw [List.mem_singleton.1 hu]; rfl
  obtain ⟨v', W', hr, h2, h3, _, h5⟩ := run_append_own_at (P := P) W base t ty 3 i z 1 8 ht hi hz hs hby hzs (by omega) v l.length _ ho ⟨ga, 0, none⟩ 1 c [.int .i64 k] rfl hnews h1 (by simp only [maxLen]; omega) (by omega) hb
  refine ⟨v', W', hr, Kd.R_of_own (by rw [List.length_append, List.length_singleton, encs_append]; exact h2) (fun _ _ => trivial), ?_, h3, ?_⟩
  rotate_left
  · rcases ho.2 with ⟨rfl, hn⟩ | ⟨g, cap, cur, rfl, hbg, hg, hnc, hcm, hcs, htake⟩
    · rcases h5 with h5 | h5
      · obtain ⟨g, cap, rfl, _⟩ := h2.form (by omega)
        cases h5
      · exact .inr h5
    · by_cases hroom : l.length + 1 ≤ cap
      · have hfit : l.length * i.size + [Value.int .i64 k].length ≤ cur.size := by rw [hs, hcs]; simp; omega
        have hr2 := run_append_room (P := P) W t ty 3 i ht hi g l.length cap cur hg ⟨ga, 0, none⟩ 1 c [.int .i64 k] (by rw [hs]; rfl) hnews h1 hroom hfit
        rw [hr] at hr2
        injection hr2 with hv
        subst hv
        exact .inl ⟨_, _, rfl, rfl⟩
      · rcases h5 with h5 | h5
        · have holds : ∀ j u, (encs (Value.int .i64) l)[j]? = some u → W.cell? ((⟨g, 0, none⟩ : Addr).add j) = some u := ho.cells (g := g) rfl
          have hr2 := run_append_grow (P := P) W t ty 3 i z ht hi hz ⟨g, 0, none⟩ l.length cap (encs (Value.int .i64) l) (by rw [hs]; exact ho.1) holds ⟨ga, 0, none⟩ 1 c [.int .i64 k] (by rw [hs]; rfl) hnews (by omega) (by omega) (growslice_fits (by omega) (by rw [hby]; omega))
          rw [hr] at hr2
          injection hr2 with hv
          subst hv
          exact .inr rfl
        · exact .inr h5
  refine Kd.R_of_own ?_ h.1
  rcases ho.2 with ⟨rfl, hn⟩ | ⟨g, cap, cur, rfl, hbg, hg, hnc, hcm, hcs, htake⟩
  · have hl0 : l = [] := List.eq_nil_of_length_eq_zero hn
    subst hl0
    exact World.ownsRow_nil W' base 3 1
  · by_cases hroom : l.length + 1 ≤ cap
    · have hfit : l.length * i.size + [Value.int .i64 k].length ≤ cur.size := by rw [hs, hcs]; simp; omega
      have hr2 := run_append_room (P := P) W t ty 3 i ht hi g l.length cap cur hg ⟨ga, 0, none⟩ 1 c [.int .i64 k] (by rw [hs]; rfl) hnews h1 hroom hfit
      rw [hr] at hr2
      injection hr2 with _ hw
      subst hw
      refine ⟨ho.1, .inr ⟨g, cap, _, rfl, hbg, setRow_heap W g cur _ 3 _ hg, hnc, hcm, ?_, ?_⟩⟩
      · simp only [List.size_toArray, List.length_append, List.length_take, List.length_drop, Array.length_toList, hs, List.length_singleton]
        omega
      · simp only [hs, Nat.mul_one] at htake ⊢
        rw [List.append_assoc, List.take_append_of_le_length (by rw [Nat.mul_one] at hcs; simp only [List.length_take, Array.length_toList]; omega), List.take_take, Nat.min_self]
        exact htake
    · have holds : ∀ j u, (encs (Value.int .i64) l)[j]? = some u → W.cell? ((⟨g, 0, none⟩ : Addr).add j) = some u := ho.cells (g := g) rfl
      have hr2 := run_append_grow (P := P) W t ty 3 i z ht hi hz ⟨g, 0, none⟩ l.length cap (encs (Value.int .i64) l) (by rw [hs]; exact ho.1) holds ⟨ga, 0, none⟩ 1 c [.int .i64 k] (by rw [hs]; rfl) hnews (by omega) (by omega) (growslice_fits (by omega) (by rw [hby]; omega))
      rw [hr] at hr2
      injection hr2 with _ hw
      subst hw
      exact ⟨ho.1, .inr ⟨g, cap, cur, rfl, hbg, (heap_alloc_old W.drew _ (Array.getElem?_eq_some_iff.1 hg).1).trans hg, hnc, hcm, hcs, htake⟩⟩
end Go.Proofs.Ytcpbhklaffgokaa.Q
