import Derived.Test.YtcpbhklaffgokaaQ0
import Derived.Laws.EntriesVeiled
namespace Go.Proofs.Ytcpbhklaffgokaa.Q
open Go.RowKit Go.Proofs.YtcpbhklaffgokaaW.PrintWords Go.Proofs.YtcpbhklaffgokaaW.PrintLast Go.Proofs.YtcpbhklaffgokaaW.PrintMore
attribute [local go_sem] max2_int min2_int max_two min_two
set_option linter.unusedVariables false
set_option linter.unusedSimpArgs false

theorem low_any (a b : Int) (w : World) :
    Calls Try.prog 90 #[.agg #[.int .i64 a, .int .i64 b]] w fun e w' => e = .returned (.int .i64 a) ∧ Below w.heap.size w w' := by
  go_enter Try.func90, Try.ntmps90
  go_wp2
  go_ret
  exact ⟨rfl, (Below.refl _ _).alloc (Nat.le_refl _) _⟩
theorem high_any (a b : Int) (w : World) :
    Calls Try.prog 91 #[.agg #[.int .i64 a, .int .i64 b]] w fun e w' => e = .returned (.int .i64 b) ∧ Below w.heap.size w w' := by
  go_enter Try.func91, Try.ntmps91
  go_wp2
  go_ret
  exact ⟨rfl, (Below.refl _ _).alloc (Nat.le_refl _) _⟩
theorem ret_int {k : IntKind} {a b : Int} (h : a = b) : Ending.returned (.int k a) = .returned (.int k b) := by rw [h]
set_option maxHeartbeats 1000000 in
theorem min_any (a b : Int) (g c : Nat) (w : World) (h0 : w.cell? ⟨g, 0, none⟩ = some (.int .i64 a)) (h1 : w.cell? ⟨g, 1, none⟩ = some (.int .i64 b)) :
    Calls Try.prog 81 #[.slice (some ⟨g, 0, none⟩) 2 c] w fun e w' => e = .returned (.int .i64 (min a b)) ∧ w = w' := by
  go_enter Try.func81, Try.ntmps81
  go_wp2
  refine wp_loop_rounds 2 ?_
  rw [rounds_succ]
  go_wp2
  all_goals
    rw [rounds_succ]
    go_wp2
    go_ret
    exact ⟨ret_int (by omega), rfl⟩
set_option maxHeartbeats 1000000 in
theorem max_any (a b : Int) (g c : Nat) (w : World) (h0 : w.cell? ⟨g, 0, none⟩ = some (.int .i64 a)) (h1 : w.cell? ⟨g, 1, none⟩ = some (.int .i64 b)) :
    Calls Try.prog 94 #[.slice (some ⟨g, 0, none⟩) 2 c] w fun e w' => e = .returned (.int .i64 (max a b)) ∧ w = w' := by
  go_enter Try.func94, Try.ntmps94
  go_wp2
  refine wp_loop_rounds 2 ?_
  rw [rounds_succ]
  go_wp2
  all_goals
    rw [rounds_succ]
    go_wp2
    go_ret
    exact ⟨ret_int (by omega), rfl⟩
theorem least_any (a b : Int) (g c : Nat) (w : World) (h0 : w.cell? ⟨g, 0, none⟩ = some (.int .i64 a)) (h1 : w.cell? ⟨g, 1, none⟩ = some (.int .i64 b)) :
    Calls Try.prog 60 #[.slice (some ⟨g, 0, none⟩) 2 c] w fun e w' => e = .returned (.int .i64 (min a b)) ∧ w = w' := by
  go_enter Try.func60, Try.ntmps60
  go_wp2_with (go_at_call 81; refine (min_any a b g c _ h0 h1).mono ?_; rintro e w' ⟨rfl, rfl⟩)
  go_ret
  exact ⟨rfl, rfl⟩
theorem most_any (a b : Int) (g c : Nat) (w : World) (h0 : w.cell? ⟨g, 0, none⟩ = some (.int .i64 a)) (h1 : w.cell? ⟨g, 1, none⟩ = some (.int .i64 b)) :
    Calls Try.prog 92 #[.slice (some ⟨g, 0, none⟩) 2 c] w fun e w' => e = .returned (.int .i64 (max a b)) ∧ w = w' := by
  go_enter Try.func92, Try.ntmps92
  go_wp2_with (go_at_call 94; refine (max_any a b g c _ h0 h1).mono ?_; rintro e w' ⟨rfl, rfl⟩)
  go_ret
  exact ⟨rfl, rfl⟩
def cutR.T2 : Bool × List (List Nat × List Nat) := (true, [([], []), ([0], [0]), ([], []), ([1, 2], [1, 2]), ([], []), ([4], [4]), ([], []), ([5, 6, 3], [5, 6]), ([3, 7], [3, 7]), ([8, 7], [8]), ([], []), ([10], [10]), ([], []), ([11, 12, 9], [11, 12]), ([], []), ([14], [14]), ([], []), ([15, 16, 13], [15, 16]), ([13, 17], [13, 17]), ([18, 17], [18]), ([9, 19], [9, 19]), ([20, 19, 0, 1, 2, 3, 4, 5, 6, 7, 8, 9, 10, 11, 12, 13, 14, 15, 16, 17, 18, 19, 20], [20])])
def cutR.B2 : List Nat := [0, 1, 0, 7, 0, 16, 0, 127, 255, 511, 0, 1024, 0, 8191, 0, 16384, 0, 131071, 262143, 524287, 1048575, 2097151]
theorem cutR.tab2 : rtab .any (opsOf Try.f75 2) = cutR.T2 := by kernel_rfl
theorem cutR.bits2 : waitsOk cutR.T2.2 cutR.B2 = true := by kernel_rfl
set_option maxHeartbeats 4000000 in
set_option maxRecDepth 100000 in
theorem cut_any (a b c d : Int) (w : World) :
    Calls Try.prog 75 #[.agg #[.int .i64 a, .int .i64 b], .agg #[.int .i64 c, .int .i64 d]] w fun e w' => e = .returned (.agg #[.int .i64 (max a c), .int .i64 (min b d)]) ∧ Below w.heap.size w w' := by
  have hu46 := Try.underlying46
  go_enter Try.func75, Try.ntmps75
  go_wp2
  have h0 := blk_alloc (blk_alloc (blk_alloc (blk_alloc (blk_new w (.cells #[.int .i64 a, .int .i64 b] 46)) (.cells #[.int .i64 c, .int .i64 d] 46)) (.cells #[.int .i64 0, .int .i64 0] 46)) (.cells #[.func (.func 90) #[] #[]] 124)) (.cells #[.func (.func 91) #[] #[]] 124)
  have h1 := blk_alloc (blk_alloc (blk_alloc (blk_new (w.alloc (.cells #[.int .i64 a, .int .i64 b] 46)) (.cells #[.int .i64 c, .int .i64 d] 46)) (.cells #[.int .i64 0, .int .i64 0] 46)) (.cells #[.func (.func 90) #[] #[]] 124)) (.cells #[.func (.func 91) #[] #[]] 124)
  have h2 := blk_alloc (blk_alloc (blk_new ((w.alloc (.cells #[.int .i64 a, .int .i64 b] 46)).alloc (.cells #[.int .i64 c, .int .i64 d] 46)) (.cells #[.int .i64 0, .int .i64 0] 46)) (.cells #[.func (.func 90) #[] #[]] 124)) (.cells #[.func (.func 91) #[] #[]] 124)
  have h3 := blk_alloc (blk_new (((w.alloc (.cells #[.int .i64 a, .int .i64 b] 46)).alloc (.cells #[.int .i64 c, .int .i64 d] 46)).alloc (.cells #[.int .i64 0, .int .i64 0] 46)) (.cells #[.func (.func 90) #[] #[]] 124)) (.cells #[.func (.func 91) #[] #[]] 124)
  have h4 := blk_new ((((w.alloc (.cells #[.int .i64 a, .int .i64 b] 46)).alloc (.cells #[.int .i64 c, .int .i64 d] 46)).alloc (.cells #[.int .i64 0, .int .i64 0] 46)).alloc (.cells #[.func (.func 90) #[] #[]] 124)) (.cells #[.func (.func 91) #[] #[]] 124)
  simp only [World.size_alloc] at h1 h2 h3 h4
  have hB := below_alloc (below_alloc (below_alloc (below_alloc (below_alloc (Below.refl _ w) (.cells #[.int .i64 a, .int .i64 b] 46)) (.cells #[.int .i64 c, .int .i64 d] 46)) (.cells #[.int .i64 0, .int .i64 0] 46)) (.cells #[.func (.func 90) #[] #[]] 124)) (.cells #[.func (.func 91) #[] #[]] 124)
  have B0 := Aside0.mk (blk_drew h0)
  have B1 := Aside0.mk (blk_drew h1)
  have B2 := Aside0.mk (blk_drew h2)
  have B3 := Aside0.mk (blk_drew h3)
  have B4 := Aside0.mk (blk_drew h4)
  have HB := Aside0.mk (below_drew1 hB)
  clear h0 h1 h2 h3 h4 hB
  have G2 : w.heap.size ≤ w.heap.size + 1 + 1 := by omega
  generalize (((((w.alloc (Obj.cells #[Value.int IntKind.i64 a, Value.int IntKind.i64 b] 46)).alloc (Obj.cells #[Value.int IntKind.i64 c, Value.int IntKind.i64 d] 46)).alloc (Obj.cells #[Value.int IntKind.i64 0, Value.int IntKind.i64 0] 46)).alloc (Obj.cells #[Value.func (Fn.func 90) #[] #[]] 124)).alloc (Obj.cells #[Value.func (Fn.func 91) #[] #[]] 124)) = W0 at B0 B1 B2 B3 B4 HB ⊢
  generalize w.heap.size + 1 + 1 + 1 + 1 = g4 at B4 ⊢
  generalize w.heap.size + 1 + 1 + 1 = g3 at B3 ⊢
  generalize w.heap.size + 1 + 1 = g2 at B2 G2 ⊢
  generalize w.heap.size + 1 = g1 at B1 ⊢
  refine start_ (n := 22) (S := fun w' => w'.cell? ⟨w.heap.size, 0, none⟩ = some (.int .i64 a) ∧ w'.cell? ⟨w.heap.size, 1, none⟩ = some (.int .i64 b) ∧ w'.cell? ⟨g1, 0, none⟩ = some (.int .i64 c) ∧ w'.cell? ⟨g1, 1, none⟩ = some (.int .i64 d) ∧ w'.cell? ⟨g3, 0, none⟩ = some (.func (.func 90) #[] #[]) ∧ w'.cell? ⟨g4, 0, none⟩ = some (.func (.func 91) #[] #[])) (ds := [21]) #[false, false, false, false, false, false, false, false, false, false, false, false, false, false, false, false, false, false, false, false, false, false] (by kernel_rfl) rfl rfl ⟨(blk_cell B0.out 0).trans rfl, (blk_cell B0.out 1).trans rfl, (blk_cell B1.out 0).trans rfl, (blk_cell B1.out 1).trans rfl, (blk_cell B3.out 0).trans rfl, (blk_cell B4.out 0).trans rfl⟩ (fun hHeld => ?_)
  refine with_tabW cutR.tab2 cutR.bits2 (fun HT_ HW_ => ?_)
  have G2 := Aside0.mk G2
  generalize W0.drew = w_0 at B0 B1 B2 B3 B4 HB hHeld ⊢
  refine pure_ (i := 0) (N := some 9) (v := ?_) (a' := ?_) #[true, false, false, false, false, false, false, false, false, false, false, false, false, false, false, false, false, false, false, false, false, false] rfl rfl (any_of HT_.out (by kernel_rfl)) (fun _ _ _ h => h) (Or.inl ⟨by rfl, ?_⟩) ?_ ?_
  rotate_left
  · intro w'
    go_simp
    with_reducible rfl
  rotate_left
  · simp only [Act.put, List.setIfInBounds_toArray, List.set_cons_zero, List.set_cons_succ, i64_w, i32_w]
    rfl
  refine pure_ (i := 4) (N := some 13) (v := ?_) (a' := ?_) #[true, false, false, false, true, false, false, false, false, false, false, false, false, false, false, false, false, false, false, false, false, false] rfl rfl (any_of HT_.out (by kernel_rfl)) (fun _ _ _ h => h) (Or.inl ⟨by rfl, ?_⟩) ?_ ?_
  rotate_left
  · intro w'
    go_simp
    with_reducible rfl
  rotate_left
  · simp only [Act.put, List.setIfInBounds_toArray, List.set_cons_zero, List.set_cons_succ, i64_w, i32_w]
    rfl
  refine pure_ (i := 10) (N := some 19) (v := ?_) (a' := ?_) #[true, false, false, false, true, false, false, false, false, false, true, false, false, false, false, false, false, false, false, false, false, false] rfl rfl (any_of HT_.out (by kernel_rfl)) (fun _ _ _ h => h) (Or.inl ⟨by rfl, ?_⟩) ?_ ?_
  rotate_left
  · intro w'
    go_simp
    with_reducible rfl
  rotate_left
  · simp only [Act.put, List.setIfInBounds_toArray, List.set_cons_zero, List.set_cons_succ, i64_w, i32_w]
    rfl
  refine pure_ (i := 14) (N := some 23) (v := ?_) (a' := ?_) #[true, false, false, false, true, false, false, false, false, false, true, false, false, false, true, false, false, false, false, false, false, false] rfl rfl (any_of HT_.out (by kernel_rfl)) (fun _ _ _ h => h) (Or.inl ⟨by rfl, ?_⟩) ?_ ?_
  rotate_left
  · intro w'
    go_simp
    with_reducible rfl
  rotate_left
  · simp only [Act.put, List.setIfInBounds_toArray, List.set_cons_zero, List.set_cons_succ, i64_w, i32_w]
    rfl
  refine take_ (i := 1) (N := some 10) (v := ?_) (a' := ?_) #[true, true, false, false, true, false, false, false, false, false, true, false, false, false, true, false, false, false, false, false, false, false] rfl rfl (take_ofW HT_.out HW_.out (by kernel_rfl)) (fun _ _ _ h => h) (Or.inl ⟨by rfl, ?_⟩) hHeld ?_ ?_
  rotate_left
  · rintro w' ⟨s0, s1, s2, s3, s4, s5⟩
    go_simp
    with_reducible rfl
  rotate_left
  · simp only [Act.put, List.setIfInBounds_toArray, List.set_cons_zero, List.set_cons_succ, i64_w, i32_w]
    rfl
  refine take_ (i := 2) (N := some 11) (v := ?_) (a' := ?_) #[true, true, true, false, true, false, false, false, false, false, true, false, false, false, true, false, false, false, false, false, false, false] rfl rfl (take_ofW HT_.out HW_.out (by kernel_rfl)) (fun _ _ _ h => h) (Or.inl ⟨by rfl, ?_⟩) hHeld ?_ ?_
  rotate_left
  · rintro w' ⟨s0, s1, s2, s3, s4, s5⟩
    go_simp
    with_reducible rfl
  rotate_left
  · simp only [Act.put, List.setIfInBounds_toArray, List.set_cons_zero, List.set_cons_succ, i64_w, i32_w]
    rfl
  refine take_ (i := 5) (N := some 14) (v := ?_) (a' := ?_) #[true, true, true, false, true, true, false, false, false, false, true, false, false, false, true, false, false, false, false, false, false, false] rfl rfl (take_ofW HT_.out HW_.out (by kernel_rfl)) (fun _ _ _ h => h) (Or.inl ⟨by rfl, ?_⟩) hHeld ?_ ?_
  rotate_left
  · rintro w' ⟨s0, s1, s2, s3, s4, s5⟩
    go_simp
    with_reducible rfl
  rotate_left
  · simp only [Act.put, List.setIfInBounds_toArray, List.set_cons_zero, List.set_cons_succ, i64_w, i32_w]
    rfl
  refine take_ (i := 6) (N := some 15) (v := ?_) (a' := ?_) #[true, true, true, false, true, true, true, false, false, false, true, false, false, false, true, false, false, false, false, false, false, false] rfl rfl (take_ofW HT_.out HW_.out (by kernel_rfl)) (fun _ _ _ h => h) (Or.inl ⟨by rfl, ?_⟩) hHeld ?_ ?_
  rotate_left
  · rintro w' ⟨s0, s1, s2, s3, s4, s5⟩
    go_simp
    with_reducible rfl
  rotate_left
  · simp only [Act.put, List.setIfInBounds_toArray, List.set_cons_zero, List.set_cons_succ, i64_w, i32_w]
    rfl
  refine take_ (i := 11) (N := some 20) (v := ?_) (a' := ?_) #[true, true, true, false, true, true, true, false, false, false, true, true, false, false, true, false, false, false, false, false, false, false] rfl rfl (take_ofW HT_.out HW_.out (by kernel_rfl)) (fun _ _ _ h => h) (Or.inl ⟨by rfl, ?_⟩) hHeld ?_ ?_
  rotate_left
  · rintro w' ⟨s0, s1, s2, s3, s4, s5⟩
    go_simp
    with_reducible rfl
  rotate_left
  · simp only [Act.put, List.setIfInBounds_toArray, List.set_cons_zero, List.set_cons_succ, i64_w, i32_w]
    rfl
  refine take_ (i := 12) (N := some 21) (v := ?_) (a' := ?_) #[true, true, true, false, true, true, true, false, false, false, true, true, true, false, true, false, false, false, false, false, false, false] rfl rfl (take_ofW HT_.out HW_.out (by kernel_rfl)) (fun _ _ _ h => h) (Or.inl ⟨by rfl, ?_⟩) hHeld ?_ ?_
  rotate_left
  · rintro w' ⟨s0, s1, s2, s3, s4, s5⟩
    go_simp
    with_reducible rfl
  rotate_left
  · simp only [Act.put, List.setIfInBounds_toArray, List.set_cons_zero, List.set_cons_succ, i64_w, i32_w]
    rfl
  refine take_ (i := 15) (N := some 24) (v := ?_) (a' := ?_) #[true, true, true, false, true, true, true, false, false, false, true, true, true, false, true, true, false, false, false, false, false, false] rfl rfl (take_ofW HT_.out HW_.out (by kernel_rfl)) (fun _ _ _ h => h) (Or.inl ⟨by rfl, ?_⟩) hHeld ?_ ?_
  rotate_left
  · rintro w' ⟨s0, s1, s2, s3, s4, s5⟩
    go_simp
    with_reducible rfl
  rotate_left
  · simp only [Act.put, List.setIfInBounds_toArray, List.set_cons_zero, List.set_cons_succ, i64_w, i32_w]
    rfl
  refine take_ (i := 16) (N := some 25) (v := ?_) (a' := ?_) #[true, true, true, false, true, true, true, false, false, false, true, true, true, false, true, true, true, false, false, false, false, false] rfl rfl (take_ofW HT_.out HW_.out (by kernel_rfl)) (fun _ _ _ h => h) (Or.inl ⟨by rfl, ?_⟩) hHeld ?_ ?_
  rotate_left
  · rintro w' ⟨s0, s1, s2, s3, s4, s5⟩
    go_simp
    with_reducible rfl
  rotate_left
  · simp only [Act.put, List.setIfInBounds_toArray, List.set_cons_zero, List.set_cons_succ, i64_w, i32_w]
    rfl
  refine one_ (i := 3) (N := some 12) #[true, true, true, true, true, true, true, false, false, false, true, true, true, false, true, true, true, false, false, false, false, false] rfl rfl (one_of HT_.out (by kernel_rfl)) (by decide) (fun K hK => ?_)
  refine call_ 90 #[.agg #[.int .i64 a, .int .i64 b]] (by rfl) rfl (by first | (go_simp; done) | (go_simp; rfl)) ?_
  with_reducible refine (low_any a b _).mono ?_
  rintro e w_3 ⟨rfl, hb⟩
  refine ⟨_, rfl, ?_⟩
  have B0 := Aside0.mk (blk_below B0.out hb)
  have B1 := Aside0.mk (blk_below B1.out hb)
  have B2 := Aside0.mk (blk_below B2.out hb)
  have B3 := Aside0.mk (blk_below B3.out hb)
  have B4 := Aside0.mk (blk_below B4.out hb)
  have HB := Aside0.mk (below_step HB.out hb)
  clear hb
  refine hK.out _ _ ⟨(blk_cell B0.out 0).trans rfl, (blk_cell B0.out 1).trans rfl, (blk_cell B1.out 0).trans rfl, (blk_cell B1.out 1).trans rfl, (blk_cell B3.out 0).trans rfl, (blk_cell B4.out 0).trans rfl⟩ (fun hHeld => ?_)
  clear hK K
  refine norm_ (a' := ?_) ?_ ?_
  rotate_left
  · show Act.put _ (some 12) _ = _
    simp only [Act.put, List.setIfInBounds_toArray, List.set_cons_zero, List.set_cons_succ, i64_w, i32_w]
    rfl
  refine one_ (i := 7) (N := some 16) #[true, true, true, true, true, true, true, true, false, false, true, true, true, false, true, true, true, false, false, false, false, false] rfl rfl (one_of HT_.out (by kernel_rfl)) (by decide) (fun K hK => ?_)
  refine call_ 90 #[.agg #[.int .i64 c, .int .i64 d]] (by rfl) rfl (by first | (go_simp; done) | (go_simp; rfl)) ?_
  with_reducible refine (low_any c d _).mono ?_
  rintro e w_7 ⟨rfl, hb⟩
  refine ⟨_, rfl, ?_⟩
  have B0 := Aside0.mk (blk_below B0.out hb)
  have B1 := Aside0.mk (blk_below B1.out hb)
  have B2 := Aside0.mk (blk_below B2.out hb)
  have B3 := Aside0.mk (blk_below B3.out hb)
  have B4 := Aside0.mk (blk_below B4.out hb)
  have HB := Aside0.mk (below_step HB.out hb)
  clear hb
  refine hK.out _ _ ⟨(blk_cell B0.out 0).trans rfl, (blk_cell B0.out 1).trans rfl, (blk_cell B1.out 0).trans rfl, (blk_cell B1.out 1).trans rfl, (blk_cell B3.out 0).trans rfl, (blk_cell B4.out 0).trans rfl⟩ (fun hHeld => ?_)
  clear hK K
  refine norm_ (a' := ?_) ?_ ?_
  rotate_left
  · show Act.put _ (some 16) _ = _
    simp only [Act.put, List.setIfInBounds_toArray, List.set_cons_zero, List.set_cons_succ, i64_w, i32_w]
    rfl
  refine one_ (i := 8) (N := some 17) #[true, true, true, true, true, true, true, true, true, false, true, true, true, false, true, true, true, false, false, false, false, false] rfl rfl (one_of HT_.out (by kernel_rfl)) (by decide) (fun K hK => ?_)
  refine value_ (w1 := ?_) (v := ?_) (by rfl) rfl ?_ ?_
  rotate_left 2
  · go_simp
    constructor
    · rfl
    · rfl
  have B5 := Aside0.mk (blk_new w_7 (.cells #[.int .i64 a, .int .i64 c] 3))
  have B0 := Aside0.mk (blk_alloc B0.out (.cells #[.int .i64 a, .int .i64 c] 3))
  have B1 := Aside0.mk (blk_alloc B1.out (.cells #[.int .i64 a, .int .i64 c] 3))
  have B2 := Aside0.mk (blk_alloc B2.out (.cells #[.int .i64 a, .int .i64 c] 3))
  have B3 := Aside0.mk (blk_alloc B3.out (.cells #[.int .i64 a, .int .i64 c] 3))
  have B4 := Aside0.mk (blk_alloc B4.out (.cells #[.int .i64 a, .int .i64 c] 3))
  have HB := Aside0.mk (below_alloc HB.out (.cells #[.int .i64 a, .int .i64 c] 3))
  refine hK.out _ _ ⟨(blk_cell B0.out 0).trans rfl, (blk_cell B0.out 1).trans rfl, (blk_cell B1.out 0).trans rfl, (blk_cell B1.out 1).trans rfl, (blk_cell B3.out 0).trans rfl, (blk_cell B4.out 0).trans rfl⟩ (fun hHeld => ?_)
  clear hK K
  refine norm_ (a' := ?_) ?_ ?_
  rotate_left
  · show Act.put _ (some 17) _ = _
    simp only [Act.put, List.setIfInBounds_toArray, List.set_cons_zero, List.set_cons_succ, i64_w, i32_w]
    rfl
  refine one_ (i := 9) (N := some 18) #[true, true, true, true, true, true, true, true, true, true, true, true, true, false, true, true, true, false, false, false, false, false] rfl rfl (one_of HT_.out (by kernel_rfl)) (by decide) (fun K hK => ?_)
  refine goes_ Try.func92 (by kernel_rfl) rfl #[.slice (some ⟨w_7.heap.size, 0, none⟩) 2 2] (by rfl) rfl rfl (by simp only [List.map_toArray, List.map_cons, List.map_nil]; rfl) ?_
  with_reducible refine (most_any a c _ _ _ ((blk_cell B5.out 0).trans rfl) ((blk_cell B5.out 1).trans rfl)).mono ?_
  rintro e wx ⟨rfl, rfl⟩
  refine ⟨_, rfl, ?_⟩
  refine hK.out _ _ ⟨(blk_cell B0.out 0).trans rfl, (blk_cell B0.out 1).trans rfl, (blk_cell B1.out 0).trans rfl, (blk_cell B1.out 1).trans rfl, (blk_cell B3.out 0).trans rfl, (blk_cell B4.out 0).trans rfl⟩ (fun hHeld => ?_)
  clear hK K
  refine norm_ (a' := ?_) ?_ ?_
  rotate_left
  · show Act.put _ (some 18) _ = _
    simp only [Act.put, List.setIfInBounds_toArray, List.set_cons_zero, List.set_cons_succ, i64_w, i32_w]
    rfl
  refine one_ (i := 13) (N := some 22) #[true, true, true, true, true, true, true, true, true, true, true, true, true, true, true, true, true, false, false, false, false, false] rfl rfl (one_of HT_.out (by kernel_rfl)) (by decide) (fun K hK => ?_)
  refine call_ 91 #[.agg #[.int .i64 a, .int .i64 b]] (by rfl) rfl (by first | (go_simp; done) | (go_simp; rfl)) ?_
  with_reducible refine (high_any a b _).mono ?_
  rintro e w_13 ⟨rfl, hb⟩
  refine ⟨_, rfl, ?_⟩
  have B0 := Aside0.mk (blk_below B0.out hb)
  have B1 := Aside0.mk (blk_below B1.out hb)
  have B2 := Aside0.mk (blk_below B2.out hb)
  have B3 := Aside0.mk (blk_below B3.out hb)
  have B4 := Aside0.mk (blk_below B4.out hb)
  have HB := Aside0.mk (below_step HB.out hb)
  clear hb
  refine hK.out _ _ ⟨(blk_cell B0.out 0).trans rfl, (blk_cell B0.out 1).trans rfl, (blk_cell B1.out 0).trans rfl, (blk_cell B1.out 1).trans rfl, (blk_cell B3.out 0).trans rfl, (blk_cell B4.out 0).trans rfl⟩ (fun hHeld => ?_)
  clear hK K
  refine norm_ (a' := ?_) ?_ ?_
  rotate_left
  · show Act.put _ (some 22) _ = _
    simp only [Act.put, List.setIfInBounds_toArray, List.set_cons_zero, List.set_cons_succ, i64_w, i32_w]
    rfl
  refine one_ (i := 17) (N := some 26) #[true, true, true, true, true, true, true, true, true, true, true, true, true, true, true, true, true, true, false, false, false, false] rfl rfl (one_of HT_.out (by kernel_rfl)) (by decide) (fun K hK => ?_)
  refine call_ 91 #[.agg #[.int .i64 c, .int .i64 d]] (by rfl) rfl (by first | (go_simp; done) | (go_simp; rfl)) ?_
  with_reducible refine (high_any c d _).mono ?_
  rintro e w_17 ⟨rfl, hb⟩
  refine ⟨_, rfl, ?_⟩
  have B0 := Aside0.mk (blk_below B0.out hb)
  have B1 := Aside0.mk (blk_below B1.out hb)
  have B2 := Aside0.mk (blk_below B2.out hb)
  have B3 := Aside0.mk (blk_below B3.out hb)
  have B4 := Aside0.mk (blk_below B4.out hb)
  have HB := Aside0.mk (below_step HB.out hb)
  clear hb
  refine hK.out _ _ ⟨(blk_cell B0.out 0).trans rfl, (blk_cell B0.out 1).trans rfl, (blk_cell B1.out 0).trans rfl, (blk_cell B1.out 1).trans rfl, (blk_cell B3.out 0).trans rfl, (blk_cell B4.out 0).trans rfl⟩ (fun hHeld => ?_)
  clear hK K
  refine norm_ (a' := ?_) ?_ ?_
  rotate_left
  · show Act.put _ (some 26) _ = _
    simp only [Act.put, List.setIfInBounds_toArray, List.set_cons_zero, List.set_cons_succ, i64_w, i32_w]
    rfl
  refine one_ (i := 18) (N := some 27) #[true, true, true, true, true, true, true, true, true, true, true, true, true, true, true, true, true, true, true, false, false, false] rfl rfl (one_of HT_.out (by kernel_rfl)) (by decide) (fun K hK => ?_)
  refine value_ (w1 := ?_) (v := ?_) (by rfl) rfl ?_ ?_
  rotate_left 2
  · go_simp
    constructor
    · rfl
    · rfl
  have B5 := Aside0.mk (blk_new w_17 (.cells #[.int .i64 b, .int .i64 d] 3))
  have B0 := Aside0.mk (blk_alloc B0.out (.cells #[.int .i64 b, .int .i64 d] 3))
  have B1 := Aside0.mk (blk_alloc B1.out (.cells #[.int .i64 b, .int .i64 d] 3))
  have B2 := Aside0.mk (blk_alloc B2.out (.cells #[.int .i64 b, .int .i64 d] 3))
  have B3 := Aside0.mk (blk_alloc B3.out (.cells #[.int .i64 b, .int .i64 d] 3))
  have B4 := Aside0.mk (blk_alloc B4.out (.cells #[.int .i64 b, .int .i64 d] 3))
  have HB := Aside0.mk (below_alloc HB.out (.cells #[.int .i64 b, .int .i64 d] 3))
  refine hK.out _ _ ⟨(blk_cell B0.out 0).trans rfl, (blk_cell B0.out 1).trans rfl, (blk_cell B1.out 0).trans rfl, (blk_cell B1.out 1).trans rfl, (blk_cell B3.out 0).trans rfl, (blk_cell B4.out 0).trans rfl⟩ (fun hHeld => ?_)
  clear hK K
  refine norm_ (a' := ?_) ?_ ?_
  rotate_left
  · show Act.put _ (some 27) _ = _
    simp only [Act.put, List.setIfInBounds_toArray, List.set_cons_zero, List.set_cons_succ, i64_w, i32_w]
    rfl
  refine one_ (i := 19) (N := some 28) #[true, true, true, true, true, true, true, true, true, true, true, true, true, true, true, true, true, true, true, true, false, false] rfl rfl (one_of HT_.out (by kernel_rfl)) (by decide) (fun K hK => ?_)
  refine goes_ Try.func60 (by kernel_rfl) rfl #[.slice (some ⟨w_17.heap.size, 0, none⟩) 2 2] (by rfl) rfl rfl (by simp only [List.map_toArray, List.map_cons, List.map_nil]; rfl) ?_
  with_reducible refine (least_any b d _ _ _ ((blk_cell B5.out 0).trans rfl) ((blk_cell B5.out 1).trans rfl)).mono ?_
  rintro e wx ⟨rfl, rfl⟩
  refine ⟨_, rfl, ?_⟩
  refine hK.out _ _ ⟨(blk_cell B0.out 0).trans rfl, (blk_cell B0.out 1).trans rfl, (blk_cell B1.out 0).trans rfl, (blk_cell B1.out 1).trans rfl, (blk_cell B3.out 0).trans rfl, (blk_cell B4.out 0).trans rfl⟩ (fun hHeld => ?_)
  clear hK K
  refine norm_ (a' := ?_) ?_ ?_
  rotate_left
  · show Act.put _ (some 28) _ = _
    simp only [Act.put, List.setIfInBounds_toArray, List.set_cons_zero, List.set_cons_succ, i64_w, i32_w]
    rfl
  refine pure_ (i := 20) (N := some 29) (v := ?_) (a' := ?_) #[true, true, true, true, true, true, true, true, true, true, true, true, true, true, true, true, true, true, true, true, true, false] rfl rfl (any_of HT_.out (by kernel_rfl)) (fun _ _ _ h => h) (Or.inl ⟨by rfl, ?_⟩) ?_ ?_
  rotate_left
  · intro w'
    go_simp
    with_reducible rfl
  rotate_left
  · simp only [Act.put, List.setIfInBounds_toArray, List.set_cons_zero, List.set_cons_succ, i64_w, i32_w]
    rfl
  refine last_ (i := 21) (N := none) #[true, true, true, true, true, true, true, true, true, true, true, true, true, true, true, true, true, true, true, true, true, true] rfl rfl (one_of HT_.out (by kernel_rfl)) (by decide) (fun K hK => ?_)
  have hc0 := (blk_cell B2.out 0).trans rfl
  have hc1 := (blk_cell B2.out 1).trans rfl
  have hf0 := blk_frozen B2.out 0
  have hf1 := blk_frozen B2.out 1
  refine skip_ (w1 := ?_) (by rfl) rfl ?_ ?_
  rotate_left
  · go_simp
    rfl
  refine hK.out _ _ ?_
  clear hK K
  refine done_ (done_of HT_.out (by kernel_rfl)) ?_

  go_wp2
  refine bodyPost_ret (results_cell_row rfl _ _ g2 46 #[.int .i64 (max a c), .int .i64 (min b d)] (0, 0) _ rfl (blk_put (cs := #[.int .i64 (max a c), .int .i64 0]) (blk_put (cs := #[.int .i64 0, .int .i64 0]) B2.out 0 _ rfl) 1 _ rfl) Try.underlying46 rfl (by kernel_rfl)) rfl ?_
  exact ⟨rfl, below_set (below_set HB.out G2.out) G2.out⟩
end Go.Proofs.Ytcpbhklaffgokaa.Q
