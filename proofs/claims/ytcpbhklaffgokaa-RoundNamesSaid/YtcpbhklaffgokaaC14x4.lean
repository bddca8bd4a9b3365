import Derived.Laws.EntriesVeiled
import Derived.Test.YtcpbhklaffgokaaC14x3
namespace Go.Proofs.Ytcpbhklaffgokaa.Q
open Go.RowKit Go.Proofs.YtcpbhklaffgokaaW.PrintWords Go.Proofs.YtcpbhklaffgokaaW.PrintLast Go.Proofs.YtcpbhklaffgokaaW.PrintMore
attribute [local go_sem] max2_int min2_int max_two min_two
set_option linter.unusedVariables false
set_option linter.unusedSimpArgs false
theorem low_any (a b : Int) (w : World) :
  Calls Try.prog 90 #[.agg #[.int .i64 a, .int .i64 b]] w fun e w' => e = .returned (.int .i64 a) ∧ Below w.heap.size w w' := by
 go_enter Try.func90, Try.ntmps90
 go_wp2
 go_ret
 exact ⟨rfl, (Below.refl _ _).alloc (Nat.le_refl _) _⟩
theorem high_any (a b : Int) (w : World) :
  Calls Try.prog 91 #[.agg #[.int .i64 a, .int .i64 b]] w fun e w' => e = .returned (.int .i64 b) ∧ Below w.heap.size w w' := by
 go_enter Try.func91, Try.ntmps91
 go_wp2
 go_ret
 exact ⟨rfl, (Below.refl _ _).alloc (Nat.le_refl _) _⟩
theorem ret_int {k : IntKind} {a b : Int} (h : a = b) : Ending.returned (.int k a) = .returned (.int k b) := by rw [h]
set_option maxHeartbeats 1000000 in
theorem min_any (a b : Int) (g c : Nat) (w : World) (h0 : w.cell? ⟨g, 0, none⟩ = some (.int .i64 a)) (h1 : w.cell? ⟨g, 1, none⟩ = some (.int .i64 b)) :
  Calls Try.prog 81 #[.slice (some ⟨g, 0, none⟩) 2 c] w fun e w' => e = .returned (.int .i64 (min a b)) ∧ w = w' := by
 go_enter Try.func81, Try.ntmps81
 go_wp2
 refine wp_loop_rounds 2 ?_
 rw [rounds_succ]
 go_wp2
 all_goals
  rw [rounds_succ]
  go_wp2
  go_ret
  exact ⟨ret_int (by omega), rfl⟩
set_option maxHeartbeats 1000000 in
theorem max_any (a b : Int) (g c : Nat) (w : World) (h0 : w.cell? ⟨g, 0, none⟩ = some (.int .i64 a)) (h1 : w.cell? ⟨g, 1, none⟩ = some (.int .i64 b)) :
  Calls Try.prog 94 #[.slice (some ⟨g, 0, none⟩) 2 c] w fun e w' => e = .returned (.int .i64 (max a b)) ∧ w = w' := by
 go_enter Try.func94, Try.ntmps94
 go_wp2
 refine wp_loop_rounds 2 ?_
 rw [rounds_succ]
 go_wp2
 all_goals
  rw [rounds_succ]
  go_wp2
  go_ret
  exact ⟨ret_int (by omega), rfl⟩
theorem least_any (a b : Int) (g c : Nat) (w : World) (h0 : w.cell? ⟨g, 0, none⟩ = some (.int .i64 a)) (h1 : w.cell? ⟨g, 1, none⟩ = some (.int .i64 b)) :
  Calls Try.prog 60 #[.slice (some ⟨g, 0, none⟩) 2 c] w fun e w' => e = .returned (.int .i64 (min a b)) ∧ w = w' := by
 go_enter Try.func60, Try.ntmps60
 go_wp2_with (go_at_call 81; refine (min_any a b g c _ h0 h1).mono ?_; rintro e w' ⟨rfl, rfl⟩)
 go_ret
 exact ⟨rfl, rfl⟩
theorem most_any (a b : Int) (g c : Nat) (w : World) (h0 : w.cell? ⟨g, 0, none⟩ = some (.int .i64 a)) (h1 : w.cell? ⟨g, 1, none⟩ = some (.int .i64 b)) :
  Calls Try.prog 92 #[.slice (some ⟨g, 0, none⟩) 2 c] w fun e w' => e = .returned (.int .i64 (max a b)) ∧ w = w' := by
 go_enter Try.func92, Try.ntmps92
 go_wp2_with (go_at_call 94; refine (max_any a b g c _ h0 h1).mono ?_; rintro e w' ⟨rfl, rfl⟩)
 go_ret
 exact ⟨rfl, rfl⟩
def cutR.T2 : Bool × List (List Nat × List Nat) := (true, [([], []), ([0], [0]), ([], []), ([1, 2], [1, 2]), ([], []), ([4], [4]), ([], []), ([5, 6, 3], [5, 6]), ([3, 7], [3, 7]), ([8, 7], [8]), ([], []), ([10], [10]), ([], []), ([11, 12, 9], [11, 12]), ([], []), ([14], [14]), ([], []), ([15, 16, 13], [15, 16]), ([13, 17], [13, 17]), ([18, 17], [18]), ([9, 19], [9, 19]), ([20, 19, 0, 1, 2, 3, 4, 5, 6, 7, 8, 9, 10, 11, 12, 13, 14, 15, 16, 17, 18, 19, 20], [20])])
def cutR.B2 : List Nat := [0, 1, 0, 7, 0, 16, 0, 127, 255, 511, 0, 1024, 0, 8191, 0, 16384, 0, 131071, 262143, 524287, 1048575, 2097151]
theorem cutR.tab2 : rtab .any (opsOf Try.f75 2) = cutR.T2 := by kernel_rfl
theorem cutR.bits2 : waitsOk cutR.T2.2 cutR.B2 = true := by kernel_rfl
set_option maxHeartbeats 4000000 in
set_option maxRecDepth 100000 in
theorem cut_any (a b c d : Int) (w : World) :
  Calls Try.prog 75 #[.agg #[.int .i64 a, .int .i64 b], .agg #[.int .i64 c, .int .i64 d]] w fun e w' => e = .returned (.agg #[.int .i64 (max a c), .int .i64 (min b d)]) ∧ Below w.heap.size w w' := by
 have hu46 := Try.underlying46
 go_enter Try.func75, Try.ntmps75
 go_wp2
 have h0 := blk_alloc (blk_alloc (blk_alloc (blk_alloc (blk_new w (.cells #[.int .i64 a, .int .i64 b] 46)) (.cells #[.int .i64 c, .int .i64 d] 46)) (.cells #[.int .i64 0, .int .i64 0] 46)) (.cells #[.func (.func 90) #[] #[]] 124)) (.cells #[.func (.func 91) #[] #[]] 124)
 have h1 := blk_alloc (blk_alloc (blk_alloc (blk_new (w.alloc (.cells #[.int .i64 a, .int .i64 b] 46)) (.cells #[.int .i64 c, .int .i64 d] 46)) (.cells #[.int .i64 0, .int .i64 0] 46)) (.cells #[.func (.func 90) #[] #[]] 124)) (.cells #[.func (.func 91) #[] #[]] 124)
 have h2 := blk_alloc (blk_alloc (blk_new ((w.alloc (.cells #[.int .i64 a, .int .i64 b] 46)).alloc (.cells #[.int .i64 c, .int .i64 d] 46)) (.cells #[.int .i64 0, .int .i64 0] 46)) (.cells #[.func (.func 90) #[] #[]] 124)) (.cells #[.func (.func 91) #[] #[]] 124)
 have h3 := blk_alloc (blk_new (((w.alloc (.cells #[.int .i64 a, .int .i64 b] 46)).alloc (.cells #[.int .i64 c, .int .i64 d] 46)).alloc (.cells #[.int .i64 0, .int .i64 0] 46)) (.cells #[.func (.func 90) #[] #[]] 124)) (.cells #[.func (.func 91) #[] #[]] 124)
 have h4 := blk_new ((((w.alloc (.cells #[.int .i64 a, .int .i64 b] 46)).alloc (.cells #[.int .i64 c, .int .i64 d] 46)).alloc (.cells #[.int .i64 0, .int .i64 0] 46)).alloc (.cells #[.func (.func 90) #[] #[]] 124)) (.cells #[.func (.func 91) #[] #[]] 124)
 simp only [World.size_alloc] at h1 h2 h3 h4
 have hB := below_alloc (below_alloc (below_alloc (below_alloc (below_alloc (Below.refl _ w) (.cells #[.int .i64 a, .int .i64 b] 46)) (.cells #[.int .i64 c, .int .i64 d] 46)) (.cells #[.int .i64 0, .int .i64 0] 46)) (.cells #[.func (.func 90) #[] #[]] 124)) (.cells #[.func (.func 91) #[] #[]] 124)
 have B0 := Aside0.mk (blk_drew h0)
 have B1 := Aside0.mk (blk_drew h1)
 have B2 := Aside0.mk (blk_drew h2)
 have B3 := Aside0.mk (blk_drew h3)
 have B4 := Aside0.mk (blk_drew h4)
 have HB := Aside0.mk (below_drew1 hB)
 clear h0 h1 h2 h3 h4 hB
 have G2 : w.heap.size ≤ w.heap.size + 1 + 1 := by omega
 generalize (((((w.alloc (Obj.cells #[Value.int IntKind.i64 a, Value.int IntKind.i64 b] 46)).alloc (Obj.cells #[Value.int IntKind.i64 c, Value.int IntKind.i64 d] 46)).alloc (Obj.cells #[Value.int IntKind.i64 0, Value.int IntKind.i64 0] 46)).alloc (Obj.cells #[Value.func (Fn.func 90) #[] #[]] 124)).alloc (Obj.cells #[Value.func (Fn.func 91) #[] #[]] 124)) = W0 at B0 B1 B2 B3 B4 HB ⊢
 generalize w.heap.size + 1 + 1 + 1 + 1 = g4 at B4 ⊢
 generalize w.heap.size + 1 + 1 + 1 = g3 at B3 ⊢
 generalize w.heap.size + 1 + 1 = g2 at B2 G2 ⊢
 generalize w.heap.size + 1 = g1 at B1 ⊢
 refine start_ (n := 22) (S := fun w' => w'.cell? ⟨w.heap.size, 0, none⟩ = some (.int .i64 a) ∧ w'.cell? ⟨w.heap.size, 1, none⟩ = some (.int .i64 b) ∧ w'.cell? ⟨g1, 0, none⟩ = some (.int .i64 c) ∧ w'.cell? ⟨g1, 1, none⟩ = some (.int .i64 d) ∧ w'.cell? ⟨g3, 0, none⟩ = some (.func (.func 90) #[] #[]) ∧ w'.cell? ⟨g4, 0, none⟩ = some (.func (.func 91) #[] #[])) (ds := [21]) #[false, false, false, false, false, false, false, false, false, false, false, false, false, false, false, false, false, false, false, false, false, false] (by kernel_rfl) rfl rfl ⟨(blk_cell B0.out 0).trans rfl, (blk_cell B0.out 1).trans rfl, (blk_cell B1.out 0).trans rfl, (blk_cell B1.out 1).trans rfl, (blk_cell B3.out 0).trans rfl, (blk_cell B4.out 0).trans rfl⟩ (fun hHeld => ?_)
 refine with_tabW cutR.tab2 cutR.bits2 (fun HT_ HW_ => ?_)
 have G2 := Aside0.mk G2
 generalize W0.drew = w_0 at B0 B1 B2 B3 B4 HB hHeld ⊢
 refine pure_ (i := 0) (N := some 9) (v := ?_) (a' := ?_) #[true, false, false, false, false, false, false, false, false, false, false, false, false, false, false, false, false, false, false, false, false, false] rfl rfl (any_of HT_.out (by kernel_rfl)) (fun _ _ _ h => h) (Or.inl ⟨by rfl, ?_⟩) ?_ ?_
 rotate_left
 ·intro w'
  go_simp
  with_reducible rfl
 rotate_left
 ·simp only [Act.put, List.setIfInBounds_toArray, List.set_cons_zero, List.set_cons_succ, i64_w, i32_w]
  rfl
 refine pure_ (i := 4) (N := some 13) (v := ?_) (a' := ?_) #[true, false, false, false, true, false, false, false, false, false, false, false, false, false, false, false, false, false, false, false, false, false] rfl rfl (any_of HT_.out (by kernel_rfl)) (fun _ _ _ h => h) (Or.inl ⟨by rfl, ?_⟩) ?_ ?_
 rotate_left
 ·intro w'
  go_simp
  with_reducible rfl
 rotate_left
 ·simp only [Act.put, List.setIfInBounds_toArray, List.set_cons_zero, List.set_cons_succ, i64_w, i32_w]
  rfl
 refine pure_ (i := 10) (N := some 19) (v := ?_) (a' := ?_) #[true, false, false, false, true, false, false, false, false, false, true, false, false, false, false, false, false, false, false, false, false, false] rfl rfl (any_of HT_.out (by kernel_rfl)) (fun _ _ _ h => h) (Or.inl ⟨by rfl, ?_⟩) ?_ ?_
 rotate_left
 ·intro w'
  go_simp
  with_reducible rfl
 rotate_left
 ·simp only [Act.put, List.setIfInBounds_toArray, List.set_cons_zero, List.set_cons_succ, i64_w, i32_w]
  rfl
 refine pure_ (i := 14) (N := some 23) (v := ?_) (a' := ?_) #[true, false, false, false, true, false, false, false, false, false, true, false, false, false, true, false, false, false, false, false, false, false] rfl rfl (any_of HT_.out (by kernel_rfl)) (fun _ _ _ h => h) (Or.inl ⟨by rfl, ?_⟩) ?_ ?_
 rotate_left
 ·intro w'
  go_simp
  with_reducible rfl
 rotate_left
 ·simp only [Act.put, List.setIfInBounds_toArray, List.set_cons_zero, List.set_cons_succ, i64_w, i32_w]
  rfl
 refine take_ (i := 1) (N := some 10) (v := ?_) (a' := ?_) #[true, true, false, false, true, false, false, false, false, false, true, false, false, false, true, false, false, false, false, false, false, false] rfl rfl (take_ofW HT_.out HW_.out (by kernel_rfl)) (fun _ _ _ h => h) (Or.inl ⟨by rfl, ?_⟩) hHeld ?_ ?_
 rotate_left
 ·rintro w' ⟨s0, s1, s2, s3, s4, s5⟩
  go_simp
  with_reducible rfl
 rotate_left
 ·simp only [Act.put, List.setIfInBounds_toArray, List.set_cons_zero, List.set_cons_succ, i64_w, i32_w]
  rfl
 refine take_ (i := 2) (N := some 11) (v := ?_) (a' := ?_) #[true, true, true, false, true, false, false, false, false, false, true, false, false, false, true, false, false, false, false, false, false, false] rfl rfl (take_ofW HT_.out HW_.out (by kernel_rfl)) (fun _ _ _ h => h) (Or.inl ⟨by rfl, ?_⟩) hHeld ?_ ?_
 rotate_left
 ·rintro w' ⟨s0, s1, s2, s3, s4, s5⟩
  go_simp
  with_reducible rfl
 rotate_left
 ·simp only [Act.put, List.setIfInBounds_toArray, List.set_cons_zero, List.set_cons_succ, i64_w, i32_w]
  rfl
 refine take_ (i := 5) (N := some 14) (v := ?_) (a' := ?_) #[true, true, true, false, true, true, false, false, false, false, true, false, false, false, true, false, false, false, false, false, false, false] rfl rfl (take_ofW HT_.out HW_.out (by kernel_rfl)) (fun _ _ _ h => h) (Or.inl ⟨by rfl, ?_⟩) hHeld ?_ ?_
 rotate_left
 ·rintro w' ⟨s0, s1, s2, s3, s4, s5⟩
  go_simp
  with_reducible rfl
 rotate_left
 ·simp only [Act.put, List.setIfInBounds_toArray, List.set_cons_zero, List.set_cons_succ, i64_w, i32_w]
  rfl
 refine take_ (i := 6) (N := some 15) (v := ?_) (a' := ?_) #[true, true, true, false, true, true, true, false, false, false, true, false, false, false, true, false, false, false, false, false, false, false] rfl rfl (take_ofW HT_.out HW_.out (by kernel_rfl)) (fun _ _ _ h => h) (Or.inl ⟨by rfl, ?_⟩) hHeld ?_ ?_
 rotate_left
 ·rintro w' ⟨s0, s1, s2, s3, s4, s5⟩
  go_simp
  with_reducible rfl
 rotate_left
 ·simp only [Act.put, List.setIfInBounds_toArray, List.set_cons_zero, List.set_cons_succ, i64_w, i32_w]
  rfl
 refine take_ (i := 11) (N := some 20) (v := ?_) (a' := ?_) #[true, true, true, false, true, true, true, false, false, false, true, true, false, false, true, false, false, false, false, false, false, false] rfl rfl (take_ofW HT_.out HW_.out (by kernel_rfl)) (fun _ _ _ h => h) (Or.inl ⟨by rfl, ?_⟩) hHeld ?_ ?_
 rotate_left
 ·rintro w' ⟨s0, s1, s2, s3, s4, s5⟩
  go_simp
  with_reducible rfl
 rotate_left
 ·simp only [Act.put, List.setIfInBounds_toArray, List.set_cons_zero, List.set_cons_succ, i64_w, i32_w]
  rfl
 refine take_ (i := 12) (N := some 21) (v := ?_) (a' := ?_) #[true, true, true, false, true, true, true, false, false, false, true, true, true, false, true, false, false, false, false, false, false, false] rfl rfl (take_ofW HT_.out HW_.out (by kernel_rfl)) (fun _ _ _ h => h) (Or.inl ⟨by rfl, ?_⟩) hHeld ?_ ?_
 rotate_left
 ·rintro w' ⟨s0, s1, s2, s3, s4, s5⟩
  go_simp
  with_reducible rfl
 rotate_left
 ·simp only [Act.put, List.setIfInBounds_toArray, List.set_cons_zero, List.set_cons_succ, i64_w, i32_w]
  rfl
 refine take_ (i := 15) (N := some 24) (v := ?_) (a' := ?_) #[true, true, true, false, true, true, true, false, false, false, true, true, true, false, true, true, false, false, false, false, false, false] rfl rfl (take_ofW HT_.out HW_.out (by kernel_rfl)) (fun _ _ _ h => h) (Or.inl ⟨by rfl, ?_⟩) hHeld ?_ ?_
 rotate_left
 ·rintro w' ⟨s0, s1, s2, s3, s4, s5⟩
  go_simp
  with_reducible rfl
 rotate_left
 ·simp only [Act.put, List.setIfInBounds_toArray, List.set_cons_zero, List.set_cons_succ, i64_w, i32_w]
  rfl
 refine take_ (i := 16) (N := some 25) (v := ?_) (a' := ?_) #[true, true, true, false, true, true, true, false, false, false, true, true, true, false, true, true, true, false, false, false, false, false] rfl rfl (take_ofW HT_.out HW_.out (by kernel_rfl)) (fun _ _ _ h => h) (Or.inl ⟨by rfl, ?_⟩) hHeld ?_ ?_
 rotate_left
 ·rintro w' ⟨s0, s1, s2, s3, s4, s5⟩
  go_simp
  with_reducible rfl
 rotate_left
 ·simp only [Act.put, List.setIfInBounds_toArray, List.set_cons_zero, List.set_cons_succ, i64_w, i32_w]
  rfl
 refine one_ (i := 3) (N := some 12) #[true, true, true, true, true, true, true, false, false, false, true, true, true, false, true, true, true, false, false, false, false, false] rfl rfl (one_of HT_.out (by kernel_rfl)) (by decide) (fun K hK => ?_)
 refine call_ 90 #[.agg #[.int .i64 a, .int .i64 b]] (by rfl) rfl (by first | (go_simp; done) | (go_simp; rfl)) ?_
 with_reducible refine (low_any a b _).mono ?_
 rintro e w_3 ⟨rfl, hb⟩
 refine ⟨_, rfl, ?_⟩
 have B0 := Aside0.mk (blk_below B0.out hb)
 have B1 := Aside0.mk (blk_below B1.out hb)
 have B2 := Aside0.mk (blk_below B2.out hb)
 have B3 := Aside0.mk (blk_below B3.out hb)
 have B4 := Aside0.mk (blk_below B4.out hb)
 have HB := Aside0.mk (below_step HB.out hb)
 clear hb
 refine hK.out _ _ ⟨(blk_cell B0.out 0).trans rfl, (blk_cell B0.out 1).trans rfl, (blk_cell B1.out 0).trans rfl, (blk_cell B1.out 1).trans rfl, (blk_cell B3.out 0).trans rfl, (blk_cell B4.out 0).trans rfl⟩ (fun hHeld => ?_)
 clear hK K
 refine norm_ (a' := ?_) ?_ ?_
 rotate_left
 ·show Act.put _ (some 12) _ = _
  simp only [Act.put, List.setIfInBounds_toArray, List.set_cons_zero, List.set_cons_succ, i64_w, i32_w]
  rfl
 refine one_ (i := 7) (N := some 16) #[true, true, true, true, true, true, true, true, false, false, true, true, true, false, true, true, true, false, false, false, false, false] rfl rfl (one_of HT_.out (by kernel_rfl)) (by decide) (fun K hK => ?_)
 refine call_ 90 #[.agg #[.int .i64 c, .int .i64 d]] (by rfl) rfl (by first | (go_simp; done) | (go_simp; rfl)) ?_
 with_reducible refine (low_any c d _).mono ?_
 rintro e w_7 ⟨rfl, hb⟩
 refine ⟨_, rfl, ?_⟩
 have B0 := Aside0.mk (blk_below B0.out hb)
 have B1 := Aside0.mk (blk_below B1.out hb)
 have B2 := Aside0.mk (blk_below B2.out hb)
 have B3 := Aside0.mk (blk_below B3.out hb)
 have B4 := Aside0.mk (blk_below B4.out hb)
 have HB := Aside0.mk (below_step HB.out hb)
 clear hb
 refine hK.out _ _ ⟨(blk_cell B0.out 0).trans rfl, (blk_cell B0.out 1).trans rfl, (blk_cell B1.out 0).trans rfl, (blk_cell B1.out 1).trans rfl, (blk_cell B3.out 0).trans rfl, (blk_cell B4.out 0).trans rfl⟩ (fun hHeld => ?_)
 clear hK K
 refine norm_ (a' := ?_) ?_ ?_
 rotate_left
 ·show Act.put _ (some 16) _ = _
  simp only [Act.put, List.setIfInBounds_toArray, List.set_cons_zero, List.set_cons_succ, i64_w, i32_w]
  rfl
 refine one_ (i := 8) (N := some 17) #[true, true, true, true, true, true, true, true, true, false, true, true, true, false, true, true, true, false, false, false, false, false] rfl rfl (one_of HT_.out (by kernel_rfl)) (by decide) (fun K hK => ?_)
 refine value_ (w1 := ?_) (v := ?_) (by rfl) rfl ?_ ?_
 rotate_left 2
 ·go_simp
  constructor
  ·rfl
  ·rfl
 have B5 := Aside0.mk (blk_new w_7 (.cells #[.int .i64 a, .int .i64 c] 3))
 have B0 := Aside0.mk (blk_alloc B0.out (.cells #[.int .i64 a, .int .i64 c] 3))
 have B1 := Aside0.mk (blk_alloc B1.out (.cells #[.int .i64 a, .int .i64 c] 3))
 have B2 := Aside0.mk (blk_alloc B2.out (.cells #[.int .i64 a, .int .i64 c] 3))
 have B3 := Aside0.mk (blk_alloc B3.out (.cells #[.int .i64 a, .int .i64 c] 3))
 have B4 := Aside0.mk (blk_alloc B4.out (.cells #[.int .i64 a, .int .i64 c] 3))
 have HB := Aside0.mk (below_alloc HB.out (.cells #[.int .i64 a, .int .i64 c] 3))
 refine hK.out _ _ ⟨(blk_cell B0.out 0).trans rfl, (blk_cell B0.out 1).trans rfl, (blk_cell B1.out 0).trans rfl, (blk_cell B1.out 1).trans rfl, (blk_cell B3.out 0).trans rfl, (blk_cell B4.out 0).trans rfl⟩ (fun hHeld => ?_)
 clear hK K
 refine norm_ (a' := ?_) ?_ ?_
 rotate_left
 ·show Act.put _ (some 17) _ = _
  simp only [Act.put, List.setIfInBounds_toArray, List.set_cons_zero, List.set_cons_succ, i64_w, i32_w]
  rfl
 refine one_ (i := 9) (N := some 18) #[true, true, true, true, true, true, true, true, true, true, true, true, true, false, true, true, true, false, false, false, false, false] rfl rfl (one_of HT_.out (by kernel_rfl)) (by decide) (fun K hK => ?_)
 refine goes_ Try.func92 (by kernel_rfl) rfl #[.slice (some ⟨w_7.heap.size, 0, none⟩) 2 2] (by rfl) rfl rfl (by simp only [List.map_toArray, List.map_cons, List.map_nil]; rfl) ?_
 with_reducible refine (most_any a c _ _ _ ((blk_cell B5.out 0).trans rfl) ((blk_cell B5.out 1).trans rfl)).mono ?_
 rintro e wx ⟨rfl, rfl⟩
 refine ⟨_, rfl, ?_⟩
 refine hK.out _ _ ⟨(blk_cell B0.out 0).trans rfl, (blk_cell B0.out 1).trans rfl, (blk_cell B1.out 0).trans rfl, (blk_cell B1.out 1).trans rfl, (blk_cell B3.out 0).trans rfl, (blk_cell B4.out 0).trans rfl⟩ (fun hHeld => ?_)
 clear hK K
 refine norm_ (a' := ?_) ?_ ?_
 rotate_left
 ·show Act.put _ (some 18) _ = _
  simp only [Act.put, List.setIfInBounds_toArray, List.set_cons_zero, List.set_cons_succ, i64_w, i32_w]
  rfl
 refine one_ (i := 13) (N := some 22) #[true, true, true, true, true, true, true, true, true, true, true, true, true, true, true, true, true, false, false, false, false, false] rfl rfl (one_of HT_.out (by kernel_rfl)) (by decide) (fun K hK => ?_)
 refine call_ 91 #[.agg #[.int .i64 a, .int .i64 b]] (by rfl) rfl (by first | (go_simp; done) | (go_simp; rfl)) ?_
 with_reducible refine (high_any a b _).mono ?_
 rintro e w_13 ⟨rfl, hb⟩
 refine ⟨_, rfl, ?_⟩
 have B0 := Aside0.mk (blk_below B0.out hb)
 have B1 := Aside0.mk (blk_below B1.out hb)
 have B2 := Aside0.mk (blk_below B2.out hb)
 have B3 := Aside0.mk (blk_below B3.out hb)
 have B4 := Aside0.mk (blk_below B4.out hb)
 have HB := Aside0.mk (below_step HB.out hb)
 clear hb
 refine hK.out _ _ ⟨(blk_cell B0.out 0).trans rfl, (blk_cell B0.out 1).trans rfl, (blk_cell B1.out 0).trans rfl, (blk_cell B1.out 1).trans rfl, (blk_cell B3.out 0).trans rfl, (blk_cell B4.out 0).trans rfl⟩ (fun hHeld => ?_)
 clear hK K
 refine norm_ (a' := ?_) ?_ ?_
 rotate_left
 ·show Act.put _ (some 22) _ = _
  simp only [Act.put, List.setIfInBounds_toArray, List.set_cons_zero, List.set_cons_succ, i64_w, i32_w]
  rfl
 refine one_ (i := 17) (N := some 26) #[true, true, true, true, true, true, true, true, true, true, true, true, true, true, true, true, true, true, false, false, false, false] rfl rfl (one_of HT_.out (by kernel_rfl)) (by decide) (fun K hK => ?_)
 refine call_ 91 #[.agg #[.int .i64 c, .int .i64 d]] (by rfl) rfl (by first | (go_simp; done) | (go_simp; rfl)) ?_
 with_reducible refine (high_any c d _).mono ?_
 rintro e w_17 ⟨rfl, hb⟩
 refine ⟨_, rfl, ?_⟩
 have B0 := Aside0.mk (blk_below B0.out hb)
 have B1 := Aside0.mk (blk_below B1.out hb)
 have B2 := Aside0.mk (blk_below B2.out hb)
 have B3 := Aside0.mk (blk_below B3.out hb)
 have B4 := Aside0.mk (blk_below B4.out hb)
 have HB := Aside0.mk (below_step HB.out hb)
 clear hb
 refine hK.out _ _ ⟨(blk_cell B0.out 0).trans rfl, (blk_cell B0.out 1).trans rfl, (blk_cell B1.out 0).trans rfl, (blk_cell B1.out 1).trans rfl, (blk_cell B3.out 0).trans rfl, (blk_cell B4.out 0).trans rfl⟩ (fun hHeld => ?_)
 clear hK K
 refine norm_ (a' := ?_) ?_ ?_
 rotate_left
 ·show Act.put _ (some 26) _ = _
  simp only [Act.put, List.setIfInBounds_toArray, List.set_cons_zero, List.set_cons_succ, i64_w, i32_w]
  rfl
 refine one_ (i := 18) (N := some 27) #[true, true, true, true, true, true, true, true, true, true, true, true, true, true, true, true, true, true, true, false, false, false] rfl rfl (one_of HT_.out (by kernel_rfl)) (by decide) (fun K hK => ?_)
 refine value_ (w1 := ?_) (v := ?_) (by rfl) rfl ?_ ?_
 rotate_left 2
 ·go_simp
  constructor
  ·rfl
  ·rfl
 have B5 := Aside0.mk (blk_new w_17 (.cells #[.int .i64 b, .int .i64 d] 3))
 have B0 := Aside0.mk (blk_alloc B0.out (.cells #[.int .i64 b, .int .i64 d] 3))
 have B1 := Aside0.mk (blk_alloc B1.out (.cells #[.int .i64 b, .int .i64 d] 3))
 have B2 := Aside0.mk (blk_alloc B2.out (.cells #[.int .i64 b, .int .i64 d] 3))
 have B3 := Aside0.mk (blk_alloc B3.out (.cells #[.int .i64 b, .int .i64 d] 3))
 have B4 := Aside0.mk (blk_alloc B4.out (.cells #[.int .i64 b, .int .i64 d] 3))
 have HB := Aside0.mk (below_alloc HB.out (.cells #[.int .i64 b, .int .i64 d] 3))
 refine hK.out _ _ ⟨(blk_cell B0.out 0).trans rfl, (blk_cell B0.out 1).trans rfl, (blk_cell B1.out 0).trans rfl, (blk_cell B1.out 1).trans rfl, (blk_cell B3.out 0).trans rfl, (blk_cell B4.out 0).trans rfl⟩ (fun hHeld => ?_)
 clear hK K
 refine norm_ (a' := ?_) ?_ ?_
 rotate_left
 ·show Act.put _ (some 27) _ = _
  simp only [Act.put, List.setIfInBounds_toArray, List.set_cons_zero, List.set_cons_succ, i64_w, i32_w]
  rfl
 refine one_ (i := 19) (N := some 28) #[true, true, true, true, true, true, true, true, true, true, true, true, true, true, true, true, true, true, true, true, false, false] rfl rfl (one_of HT_.out (by kernel_rfl)) (by decide) (fun K hK => ?_)
 refine goes_ Try.func60 (by kernel_rfl) rfl #[.slice (some ⟨w_17.heap.size, 0, none⟩) 2 2] (by rfl) rfl rfl (by simp only [List.map_toArray, List.map_cons, List.map_nil]; rfl) ?_
 with_reducible refine (least_any b d _ _ _ ((blk_cell B5.out 0).trans rfl) ((blk_cell B5.out 1).trans rfl)).mono ?_
 rintro e wx ⟨rfl, rfl⟩
 refine ⟨_, rfl, ?_⟩
 refine hK.out _ _ ⟨(blk_cell B0.out 0).trans rfl, (blk_cell B0.out 1).trans rfl, (blk_cell B1.out 0).trans rfl, (blk_cell B1.out 1).trans rfl, (blk_cell B3.out 0).trans rfl, (blk_cell B4.out 0).trans rfl⟩ (fun hHeld => ?_)
 clear hK K
 refine norm_ (a' := ?_) ?_ ?_
 rotate_left
 ·show Act.put _ (some 28) _ = _
  simp only [Act.put, List.setIfInBounds_toArray, List.set_cons_zero, List.set_cons_succ, i64_w, i32_w]
  rfl
 refine pure_ (i := 20) (N := some 29) (v := ?_) (a' := ?_) #[true, true, true, true, true, true, true, true, true, true, true, true, true, true, true, true, true, true, true, true, true, false] rfl rfl (any_of HT_.out (by kernel_rfl)) (fun _ _ _ h => h) (Or.inl ⟨by rfl, ?_⟩) ?_ ?_
 rotate_left
 ·intro w'
  go_simp
  with_reducible rfl
 rotate_left
 ·simp only [Act.put, List.setIfInBounds_toArray, List.set_cons_zero, List.set_cons_succ, i64_w, i32_w]
  rfl
 refine last_ (i := 21) (N := none) #[true, true, true, true, true, true, true, true, true, true, true, true, true, true, true, true, true, true, true, true, true, true] rfl rfl (one_of HT_.out (by kernel_rfl)) (by decide) (fun K hK => ?_)
 have hc0 := (blk_cell B2.out 0).trans rfl
 have hc1 := (blk_cell B2.out 1).trans rfl
 have hf0 := blk_frozen B2.out 0
 have hf1 := blk_frozen B2.out 1
 refine skip_ (w1 := ?_) (by rfl) rfl ?_ ?_
 rotate_left
 ·go_simp
  rfl
 refine hK.out _ _ ?_
 clear hK K
 refine done_ (done_of HT_.out (by kernel_rfl)) ?_
 go_wp2
 refine bodyPost_ret (results_cell_row rfl _ _ g2 46 #[.int .i64 (max a c), .int .i64 (min b d)] (0, 0) _ rfl (blk_put (cs := #[.int .i64 (max a c), .int .i64 0]) (blk_put (cs := #[.int .i64 0, .int .i64 0]) B2.out 0 _ rfl) 1 _ rfl) Try.underlying46 rfl (by kernel_rfl)) rfl ?_
 exact ⟨rfl, below_set (below_set HB.out G2.out) G2.out⟩
end Go.Proofs.Ytcpbhklaffgokaa.Q
namespace Go.Proofs.Ytcpbhklaffgokaa.Q
open Go.RowKit Go.Proofs.YtcpbhklaffgokaaW.PrintWords Go.Proofs.YtcpbhklaffgokaaW.PrintLast Go.Proofs.YtcpbhklaffgokaaW.PrintMore
set_option linter.unusedVariables false
set_option linter.unusedSimpArgs false
def withinB (n lo hi : Int) : Bool := decide (lo ≤ n) && decide (n ≤ hi)
theorem within_any (n lo hi : Int) (w : World) :
  Calls Try.prog 44 #[.int .i64 n, .int .i64 lo, .int .i64 hi] w fun e w' => e = .returned (.bool (withinB n lo hi)) ∧ w = w' := by
 by_cases h1 : lo ≤ n <;> by_cases h2 : n ≤ hi
 all_goals
  go_enter Try.func44, Try.ntmps44
  go_wp2
  go_ret
  exact ⟨by simp [withinB, h1, h2], rfl⟩
theorem tol_any (n : Int) (w : World) :
  Calls Try.prog 48 #[.int .i64 n] w fun e w' => e = .returned (.bool (withinB n 0 100)) ∧ w = w' := by
 go_enter Try.func48, Try.ntmps48
 go_wp2_with (go_at_call 44; refine (within_any _ _ _ _).mono ?_; rintro e w' ⟨rfl, rfl⟩)
 go_ret
 exact ⟨rfl, rfl⟩
theorem empty_any (a b : Int) (w : World) :
  Calls Try.prog 76 #[.agg #[.int .i64 a, .int .i64 b]] w fun e w' => e = .returned (.bool (decide (b < a))) ∧ Below w.heap.size w w' := by
 go_enter Try.func76, Try.ntmps76
 go_wp2
 go_ret
 exact ⟨by simp, (Below.refl _ _).alloc (Nat.le_refl _) _⟩
theorem wider_any (a b n : Int) (w : World) (ha : -4000000000 ≤ a) (ha' : a ≤ 4000000000) (hb : -4000000000 ≤ b) (hb' : b ≤ 4000000000) (hn : 0 ≤ n) (hn' : n ≤ 100) :
  Calls Try.prog 77 #[.agg #[.int .i64 a, .int .i64 b], .int .i64 n] w fun e w' => e = .returned (.agg #[.int .i64 (a - n), .int .i64 (b + n)]) ∧ Below w.heap.size w w' := by
 go_enter Try.func77, Try.ntmps77
 go_wp2
 refine bodyPost_ret (v := .agg #[.int .i64 (a - n), .int .i64 (b + n)]) (by simp [results, Try.results77, go_sem]) rfl ⟨rfl, ?_⟩
 exact below_alloc (below_alloc (Below.refl _ _) _) _
theorem nobody_any (w : World) :
  Calls Try.prog 55 #[] w fun e w' => e = .returned (.agg #[.int .i64 (-1), .int .i64 0]) ∧ Below w.heap.size w w' := by
 go_enter Try.func55, Try.ntmps55
 go_wp2
 refine bodyPost_ret (v := .agg #[.int .i64 (-1), .int .i64 0]) (by simp [results, Try.results55, go_sem]) rfl ⟨rfl, ?_⟩
 exact below_alloc (Below.refl _ _) _
def lotB (a b : Int) : Bool := decide (0 ≤ a) && (decide (a ≤ b) && decide (b ≤ 1000))
theorem lot_any (a b : Int) (w : World) :
  Calls Try.prog 46 #[.agg #[.int .i64 a, .int .i64 b]] w fun e w' => e = .returned (.bool (lotB a b)) ∧ Below w.heap.size w w' := by
 by_cases h1 : 0 ≤ a <;> by_cases h2 : a ≤ b <;> by_cases h3 : b ≤ 1000
 all_goals first
  | (exfalso; omega)
  | (go_enter Try.func46, Try.ntmps46; go_wp2; go_ret; exact ⟨by simp [lotB, h1, h2, h3], (Below.refl _ _).alloc (Nat.le_refl _) _⟩)
theorem labread_any (n : Int) (w : World) :
  Calls Try.prog 71 #[.int .i64 n] w fun e w' => e = .returned (.bool (withinB n (-1) 1000)) ∧ w = w' := by
 go_enter Try.func71, Try.ntmps71
 go_wp2_with (go_at_call 44; refine (within_any _ _ _ _).mono ?_; rintro e w' ⟨rfl, rfl⟩)
 go_ret
 exact ⟨rfl, rfl⟩
def IdxPost {α : Type} (q : α → Bool) (xs : List α) (w : World) (e : Ending) (w' : World) : Prop := ∃ i : Int, e = .returned (.int .i64 i) ∧ decide (0 ≤ i) = xs.any q ∧ Below w.heap.size w w'
theorem rd_mem {α : Type} (z : α) (xs : List α) (k : Int) (h0 : 0 ≤ k) (h : k < xs.length) : xs.getD k.toNat z ∈ xs := by
 have : k.toNat < xs.length := by omega
 simp [List.getD_eq_getElem?_getD, List.getElem?_eq_getElem this]
theorem any_snoc {α : Type} (q : α → Bool) (z : α) (xs : List α) (k : Int) (h0 : 0 ≤ k) (h : k < xs.length) (h1 : (xs.take k.toNat).any q = false) (h2 : q (xs.getD k.toNat z) = false) : (xs.take (k + 1).toNat).any q = false := by
 have h3 : k.toNat < xs.length := by omega
 have h4 : (k + 1).toNat = k.toNat + 1 := by omega
 rw [h4, List.take_succ_eq_append_getElem h3, List.any_append, h1]
 simpa [List.getD_eq_getElem?_getD, List.getElem?_eq_getElem h3] using h2
theorem any_hit {α : Type} (q : α → Bool) (z : α) (xs : List α) (k : Int) (h0 : 0 ≤ k) (h : k < xs.length) (h2 : q (xs.getD k.toNat z) = true) : decide (0 ≤ k) = xs.any q := by
 rw [decide_eq_true h0, eq_comm, List.any_eq_true]
 exact ⟨_, rd_mem z xs k h0 h, h2⟩
theorem any_none {α : Type} (q : α → Bool) (xs : List α) (k : Int) (h : (xs.length : Int) ≤ k) (h1 : (xs.take k.toNat).any q = false) : decide (0 ≤ (-1 : Int)) = xs.any q := by
 rw [List.take_of_length_le (by omega)] at h1
 rw [h1]; rfl
theorem any_not_all {α : Type} (p : α → Bool) (xs : List α) : (!xs.any fun x => !p x) = xs.all p := by induction xs <;> simp_all
set_option maxHeartbeats 4000000 in
theorem idx46 (q : S46 → Bool) (xs : List S46) (A : Option Addr) (c bx : Nat) (w : World) (hr : Kd.C k46 w A xs.length xs) (hlen : xs.length < 17592186044416)
  (hf : ∀ x, x ∈ xs → ∀ w1, Below w.heap.size w w1 → Calls Try.prog 66 #[.agg #[.int .i64 x.f0, .int .i64 x.f1], .pointer (some ⟨bx, 0, none⟩)] w1 fun e w2 => e = .returned (.bool (q x)) ∧ Below w1.heap.size w1 w2) :
  Calls Try.prog 85 #[.slice A xs.length c, .func (.func 66) #[] #[.pointer (some ⟨bx, 0, none⟩)]] w (IdxPost q xs w) := by
 have HF := Aside0.mk hf
 have HR := Aside0.mk hr
 clear hf hr
 go_enter Try.func85, Try.ntmps85
 go_wp2
 go_loopw [8] (fun i wr => ∃ k : Int, 0 ≤ k ∧ k ≤ xs.length ∧ i = .int .i64 k ∧ Aside0 (Below w.heap.size w wr) ∧ Aside0 ((xs.take k.toNat).any q = false)) (fun i _ => xs.length - (intOf i).toNat)
 case atStart => exact ⟨0, by omega, by omega, rfl, ⟨Below.refl _ _⟩, ⟨rfl⟩⟩
 case round =>
  obtain ⟨k, hk0, hk, rfl, HB, HQ⟩ := hrel
  by_cases hlt : k < xs.length
  ·obtain ⟨ad, hA, hx0, hx1⟩ := at_T46 HR.out k (by omega) (by omega)
   have hw0 : wr.cell? (ad.add (k.toNat * 2)) = _ := (HB.out.cell (World.block_lt_of_cell? w _ hx0)).trans hx0
   have hw1 : wr.cell? ⟨(ad.add (k.toNat * 2)).block, (ad.add (k.toNat * 2)).off + 1, none⟩ = _ := (HB.out.cell (World.block_lt_of_cell? w _ hx1)).trans hx1
   obtain rfl := hA
   have hm : rd_T46 xs k ∈ xs := rd_mem z46 xs k hk0 hlt
   have HF1 := HF.out _ hm wr HB.out
   clear hm hx0 hx1
   cases hq : q (rd_T46 xs k)
   all_goals
    rw [hq] at HF1
    have HF1 := Aside0.mk HF1
    have HQ1 := Aside0.mk hq
    clear hq
    go_wp2_with (go_at_call 66; (with_reducible refine HF1.out.mono ?_); rintro e w2 ⟨rfl, hb⟩; have HB := Aside0.mk (below_step HB.out hb); clear hb)
   ·go_roundw
    case rel => exact ⟨k + 1, by omega, by omega, rfl, HB, ⟨any_snoc q z46 xs k hk0 hlt HQ.out HQ1.out⟩⟩
    case measure => simp [intOf]; omega
   ·go_ret
    exact ⟨k, rfl, any_hit q z46 xs k hk0 hlt HQ1.out, HB.out⟩
  ·go_wp2
   go_ret
   exact ⟨-1, rfl, any_none q xs k (by omega) HQ.out, HB.out⟩
theorem con46 (q : S46 → Bool) (xs : List S46) (A : Option Addr) (c bx : Nat) (w : World) (hr : Kd.C k46 w A xs.length xs) (hlen : xs.length < 17592186044416)
  (hf : ∀ x, x ∈ xs → ∀ w1, Below w.heap.size w w1 → Calls Try.prog 66 #[.agg #[.int .i64 x.f0, .int .i64 x.f1], .pointer (some ⟨bx, 0, none⟩)] w1 fun e w2 => e = .returned (.bool (q x)) ∧ Below w1.heap.size w1 w2) :
  Calls Try.prog 65 #[.slice A xs.length c, .func (.func 66) #[] #[.pointer (some ⟨bx, 0, none⟩)]] w fun e w' => e = .returned (.bool (xs.any q)) ∧ Below w.heap.size w w' := by
 have HF := Aside0.mk hf
 have HR := Aside0.mk hr
 clear hf hr
 go_enter Try.func65, Try.ntmps65
 go_wp2_with (go_at_call 85; (with_reducible refine (idx46 q xs A c bx _ HR.out hlen HF.out).mono ?_); rintro e w' ⟨i, rfl, hi, hb⟩; have HI := Aside0.mk hi; clear hi)
 go_ret
 exact ⟨by rw [← HI.out]; rfl, hb⟩
set_option maxHeartbeats 4000000 in
theorem idx3 (q : Int → Bool) (xs : List Int) (A : Option Addr) (c bx : Nat) (w : World) (hr : Kd.C (Kd.int .i64) w A xs.length xs) (hlen : xs.length < 17592186044416)
  (hf : ∀ x, x ∈ xs → ∀ w1, Below w.heap.size w w1 → Calls Try.prog 68 #[.int .i64 x, .pointer (some ⟨bx, 0, none⟩)] w1 fun e w2 => e = .returned (.bool (q x)) ∧ Below w1.heap.size w1 w2) :
  Calls Try.prog 86 #[.slice A xs.length c, .func (.func 68) #[] #[.pointer (some ⟨bx, 0, none⟩)]] w (IdxPost q xs w) := by
 have HF := Aside0.mk hf
 have HR := Aside0.mk hr
 clear hf hr
 go_enter Try.func86, Try.ntmps86
 go_wp2
 go_loopw [8] (fun i wr => ∃ k : Int, 0 ≤ k ∧ k ≤ xs.length ∧ i = .int .i64 k ∧ Aside0 (Below w.heap.size w wr) ∧ Aside0 ((xs.take k.toNat).any q = false)) (fun i _ => xs.length - (intOf i).toNat)
 case atStart => exact ⟨0, by omega, by omega, rfl, ⟨Below.refl _ _⟩, ⟨rfl⟩⟩
 case round =>
  obtain ⟨k, hk0, hk, rfl, HB, HQ⟩ := hrel
  by_cases hlt : k < xs.length
  ·obtain ⟨ad, hA, hx0⟩ := Kd.at_int HR.out k (by omega) (by omega)
   have hw0 : wr.cell? (ad.add k.toNat) = _ := (HB.out.cell (World.block_lt_of_cell? w _ hx0)).trans hx0
   obtain rfl := hA
   have hm : rd xs k ∈ xs := rd_mem 0 xs k hk0 hlt
   have HF1 := HF.out _ hm wr HB.out
   clear hm hx0
   cases hq : q (rd xs k)
   all_goals
    rw [hq] at HF1
    have HF1 := Aside0.mk HF1
    have HQ1 := Aside0.mk hq
    clear hq
    go_wp2_with (go_at_call 68; (with_reducible refine HF1.out.mono ?_); rintro e w2 ⟨rfl, hb⟩; have HB := Aside0.mk (below_step HB.out hb); clear hb)
   ·go_roundw
    case rel => exact ⟨k + 1, by omega, by omega, rfl, HB, ⟨any_snoc q 0 xs k hk0 hlt HQ.out HQ1.out⟩⟩
    case measure => simp [intOf]; omega
   ·go_ret
    exact ⟨k, rfl, any_hit q 0 xs k hk0 hlt HQ1.out, HB.out⟩
  ·go_wp2
   go_ret
   exact ⟨-1, rfl, any_none q xs k (by omega) HQ.out, HB.out⟩
theorem con3 (q : Int → Bool) (xs : List Int) (A : Option Addr) (c bx : Nat) (w : World) (hr : Kd.C (Kd.int .i64) w A xs.length xs) (hlen : xs.length < 17592186044416)
  (hf : ∀ x, x ∈ xs → ∀ w1, Below w.heap.size w w1 → Calls Try.prog 68 #[.int .i64 x, .pointer (some ⟨bx, 0, none⟩)] w1 fun e w2 => e = .returned (.bool (q x)) ∧ Below w1.heap.size w1 w2) :
  Calls Try.prog 67 #[.slice A xs.length c, .func (.func 68) #[] #[.pointer (some ⟨bx, 0, none⟩)]] w fun e w' => e = .returned (.bool (xs.any q)) ∧ Below w.heap.size w w' := by
 have HF := Aside0.mk hf
 have HR := Aside0.mk hr
 clear hf hr
 go_enter Try.func67, Try.ntmps67
 go_wp2_with (go_at_call 86; (with_reducible refine (idx3 q xs A c bx _ HR.out hlen HF.out).mono ?_); rintro e w' ⟨i, rfl, hi, hb⟩; have HI := Aside0.mk hi; clear hi)
 go_ret
 exact ⟨by rw [← HI.out]; rfl, hb⟩
set_option maxHeartbeats 4000000 in
theorem idx75 (q : S75 → Bool) (xs : List S75) (A : Option Addr) (c bx : Nat) (w : World) (hr : Kd.C k75 w A xs.length xs) (hlen : xs.length < 17592186044416)
  (hf : ∀ x, x ∈ xs → ∀ w1, Below w.heap.size w w1 → ∀ (A1 : Option Addr) (c1 : Nat), x.f1.length ≤ c1 → (Kd.int .i64).C w1 A1 x.f1.length x.f1 → Calls Try.prog 70 #[.agg #[.int .i64 x.f0, .slice A1 x.f1.length c1], .pointer (some ⟨bx, 0, none⟩)] w1 fun e w2 => e = .returned (.bool (q x)) ∧ Below w1.heap.size w1 w2) :
  Calls Try.prog 87 #[.slice A xs.length c, .func (.func 70) #[] #[.pointer (some ⟨bx, 0, none⟩)]] w (IdxPost q xs w) := by
 have HF := Aside0.mk hf
 have HR := Aside0.mk hr
 clear hf hr
 go_enter Try.func87, Try.ntmps87
 go_wp2
 go_loopw [8] (fun i wr => ∃ k : Int, 0 ≤ k ∧ k ≤ xs.length ∧ i = .int .i64 k ∧ Aside0 (Below w.heap.size w wr) ∧ Aside0 ((xs.take k.toNat).any q = false)) (fun i _ => xs.length - (intOf i).toNat)
 case atStart => exact ⟨0, by omega, by omega, rfl, ⟨Below.refl _ _⟩, ⟨rfl⟩⟩
 case round =>
  obtain ⟨k, hk0, hk, rfl, HB, HQ⟩ := hrel
  by_cases hlt : k < xs.length
  ·obtain ⟨ad, A1, c1, hA, hx0, hx1, hl1, hg1⟩ := at_T75 HR.out k (by omega) (by omega)
   have hw0 : wr.cell? (ad.add (k.toNat * 2)) = _ := (HB.out.cell (World.block_lt_of_cell? w _ hx0)).trans hx0
   have hw1 : wr.cell? ⟨(ad.add (k.toNat * 2)).block, (ad.add (k.toNat * 2)).off + 1, none⟩ = _ := (HB.out.cell (World.block_lt_of_cell? w _ hx1)).trans hx1
   obtain rfl := hA
   have hm : rd_T75 xs k ∈ xs := rd_mem z75 xs k hk0 hlt
   have HF1 := HF.out _ hm wr HB.out A1 c1 hl1 (Kd.C_below hg1 HB.out)
   clear hm hx0 hx1 hl1 hg1
   cases hq : q (rd_T75 xs k)
   all_goals
    rw [hq] at HF1
    have HF1 := Aside0.mk HF1
    have HQ1 := Aside0.mk hq
    clear hq
    go_wp2_with (go_at_call 70; (with_reducible refine HF1.out.mono ?_); rintro e w2 ⟨rfl, hb⟩; have HB := Aside0.mk (below_step HB.out hb); clear hb)
   ·go_roundw
    case rel => exact ⟨k + 1, by omega, by omega, rfl, HB, ⟨any_snoc q z75 xs k hk0 hlt HQ.out HQ1.out⟩⟩
    case measure => simp [intOf]; omega
   ·go_ret
    exact ⟨k, rfl, any_hit q z75 xs k hk0 hlt HQ1.out, HB.out⟩
  ·go_wp2
   go_ret
   exact ⟨-1, rfl, any_none q xs k (by omega) HQ.out, HB.out⟩
theorem con75 (q : S75 → Bool) (xs : List S75) (A : Option Addr) (c bx : Nat) (w : World) (hr : Kd.C k75 w A xs.length xs) (hlen : xs.length < 17592186044416)
  (hf : ∀ x, x ∈ xs → ∀ w1, Below w.heap.size w w1 → ∀ (A1 : Option Addr) (c1 : Nat), x.f1.length ≤ c1 → (Kd.int .i64).C w1 A1 x.f1.length x.f1 → Calls Try.prog 70 #[.agg #[.int .i64 x.f0, .slice A1 x.f1.length c1], .pointer (some ⟨bx, 0, none⟩)] w1 fun e w2 => e = .returned (.bool (q x)) ∧ Below w1.heap.size w1 w2) :
  Calls Try.prog 69 #[.slice A xs.length c, .func (.func 70) #[] #[.pointer (some ⟨bx, 0, none⟩)]] w fun e w' => e = .returned (.bool (xs.any q)) ∧ Below w.heap.size w w' := by
 have HF := Aside0.mk hf
 have HR := Aside0.mk hr
 clear hf hr
 go_enter Try.func69, Try.ntmps69
 go_wp2_with (go_at_call 87; (with_reducible refine (idx75 q xs A c bx _ HR.out hlen HF.out).mono ?_); rintro e w' ⟨i, rfl, hi, hb⟩; have HI := Aside0.mk hi; clear hi)
 go_ret
 exact ⟨by rw [← HI.out]; rfl, hb⟩
set_option maxHeartbeats 4000000 in
theorem idx23 (q : (List Int) → Bool) (xs : List (List Int)) (A : Option Addr) (c bx : Nat) (w : World) (hr : Kd.C (Kd.slice 3 (Kd.int .i64)) w A xs.length xs) (hlen : xs.length < 17592186044416)
  (hf : ∀ x, x ∈ xs → ∀ w1, Below w.heap.size w w1 → ∀ (A1 : Option Addr) (c1 : Nat), x.length ≤ c1 → (Kd.int .i64).C w1 A1 x.length x → Calls Try.prog 83 #[.slice A1 x.length c1, .pointer (some ⟨bx, 0, none⟩)] w1 fun e w2 => e = .returned (.bool (q x)) ∧ Below w1.heap.size w1 w2) :
  Calls Try.prog 93 #[.slice A xs.length c, .func (.func 83) #[] #[.pointer (some ⟨bx, 0, none⟩)]] w (IdxPost q xs w) := by
 have HF := Aside0.mk hf
 have HR := Aside0.mk hr
 clear hf hr
 go_enter Try.func93, Try.ntmps93
 go_wp2
 go_loopw [8] (fun i wr => ∃ k : Int, 0 ≤ k ∧ k ≤ xs.length ∧ i = .int .i64 k ∧ Aside0 (Below w.heap.size w wr) ∧ Aside0 ((xs.take k.toNat).any q = false)) (fun i _ => xs.length - (intOf i).toNat)
 case atStart => exact ⟨0, by omega, by omega, rfl, ⟨Below.refl _ _⟩, ⟨rfl⟩⟩
 case round =>
  obtain ⟨k, hk0, hk, rfl, HB, HQ⟩ := hrel
  by_cases hlt : k < xs.length
  ·obtain ⟨ad, A1, c1, hA, hx0, hl1, hg1⟩ := at_L2 HR.out k (by omega) (by omega)
   have hw0 : wr.cell? (ad.add k.toNat) = _ := (HB.out.cell (World.block_lt_of_cell? w _ hx0)).trans hx0
   obtain rfl := hA
   have hm : rd_L2 xs k ∈ xs := rd_mem ([] : List Int) xs k hk0 hlt
   have HF1 := HF.out _ hm wr HB.out A1 c1 hl1 (Kd.C_below hg1 HB.out)
   clear hm hx0 hl1 hg1
   cases hq : q (rd_L2 xs k)
   all_goals
    rw [hq] at HF1
    have HF1 := Aside0.mk HF1
    have HQ1 := Aside0.mk hq
    clear hq
    go_wp2_with (go_at_call 83; (with_reducible refine HF1.out.mono ?_); rintro e w2 ⟨rfl, hb⟩; have HB := Aside0.mk (below_step HB.out hb); clear hb)
   ·go_roundw
    case rel => exact ⟨k + 1, by omega, by omega, rfl, HB, ⟨any_snoc q ([] : List Int) xs k hk0 hlt HQ.out HQ1.out⟩⟩
    case measure => simp [intOf]; omega
   ·go_ret
    exact ⟨k, rfl, any_hit q ([] : List Int) xs k hk0 hlt HQ1.out, HB.out⟩
  ·go_wp2
   go_ret
   exact ⟨-1, rfl, any_none q xs k (by omega) HQ.out, HB.out⟩
theorem con23 (q : (List Int) → Bool) (xs : List (List Int)) (A : Option Addr) (c bx : Nat) (w : World) (hr : Kd.C (Kd.slice 3 (Kd.int .i64)) w A xs.length xs) (hlen : xs.length < 17592186044416)
  (hf : ∀ x, x ∈ xs → ∀ w1, Below w.heap.size w w1 → ∀ (A1 : Option Addr) (c1 : Nat), x.length ≤ c1 → (Kd.int .i64).C w1 A1 x.length x → Calls Try.prog 83 #[.slice A1 x.length c1, .pointer (some ⟨bx, 0, none⟩)] w1 fun e w2 => e = .returned (.bool (q x)) ∧ Below w1.heap.size w1 w2) :
  Calls Try.prog 82 #[.slice A xs.length c, .func (.func 83) #[] #[.pointer (some ⟨bx, 0, none⟩)]] w fun e w' => e = .returned (.bool (xs.any q)) ∧ Below w.heap.size w w' := by
 have HF := Aside0.mk hf
 have HR := Aside0.mk hr
 clear hf hr
 go_enter Try.func82, Try.ntmps82
 go_wp2_with (go_at_call 93; (with_reducible refine (idx23 q xs A c bx _ HR.out hlen HF.out).mono ?_); rintro e w' ⟨i, rfl, hi, hb⟩; have HI := Aside0.mk hi; clear hi)
 go_ret
 exact ⟨by rw [← HI.out]; rfl, hb⟩
set_option maxHeartbeats 4000000 in
theorem clo46_46  (p : S46 → Bool) (x : S46)  (bx : Nat) (w : World) (hbx : w.cell? ⟨bx, 0, none⟩ = some (.func (.func 46) #[] #[]))
  (hf : ∀ w1, Below w.heap.size w w1 → Calls Try.prog 46 #[.agg #[.int .i64 x.f0, .int .i64 x.f1]] w1 fun e w2 => e = .returned (.bool (p x)) ∧ Below w1.heap.size w1 w2) :
  Calls Try.prog 66 #[.agg #[.int .i64 x.f0, .int .i64 x.f1], .pointer (some ⟨bx, 0, none⟩)] w fun e w2 => e = .returned (.bool (!p x)) ∧ Below w.heap.size w w2 := by
 have HF := Aside0.mk hf
 have hbo : ∀ o, (w.alloc o).cell? ⟨bx, 0, none⟩ = some (.func (.func 46) #[] #[]) := fun o => (World.cell?_alloc_lt _ _ _ (World.block_lt_of_cell? w _ hbx)).trans hbx
 clear hf
 cases hp : p x
 all_goals
  have HF1 := HF.out
  simp only [hp] at HF1
  have HF1 := Aside0.mk HF1
  clear hp HF
  go_enter Try.func66, Try.ntmps66
  go_wp2_with (go_at_call 46; (with_reducible refine (HF1.out _ (below_alloc (Below.refl _ _) _)).mono ?_); rintro e w2 ⟨rfl, hb⟩)
  go_ret
  exact ⟨rfl, below_step (below_alloc (Below.refl _ _) _) hb⟩
set_option maxHeartbeats 4000000 in
theorem all46_46  (p : S46 → Bool) (xs : List S46) (A : Option Addr) (c : Nat) (w : World) (hr : Kd.C k46 w A xs.length xs) (hlen : xs.length < 17592186044416)
  (hf : ∀ x, x ∈ xs → ∀ w1, Below w.heap.size w w1 → Calls Try.prog 46 #[.agg #[.int .i64 x.f0, .int .i64 x.f1]] w1 fun e w2 => e = .returned (.bool (p x)) ∧ Below w1.heap.size w1 w2) :
  Calls Try.prog 45 #[.slice A xs.length c, .func (.func 46) #[] #[]] w fun e w' => e = .returned (.bool (xs.all p)) ∧ Below w.heap.size w w' := by
 have HF := Aside0.mk hf
 have HR := Aside0.mk (Kd.C_alloc hr (.cells #[.func (.func 46) #[] #[]] 79))
 clear hf hr
 have hcon := con46 (fun x => !p x) xs A c w.heap.size (w.alloc (.cells #[.func (.func 46) #[] #[]] 79)) HR.out hlen (fun x hx w1 hb => clo46_46 p x w.heap.size w1 ((hb.cell (p := ⟨w.heap.size, 0, none⟩) (by simp)).trans ((blk_cell (blk_new w _) 0).trans rfl)) (fun w2 hb2 => HF.out x hx w2 (below_step (below_step (below_alloc (Below.refl _ _) _) hb) hb2)))
 have HC := Aside0.mk hcon
 clear hcon
 go_enter Try.func45, Try.ntmps45
 go_wp2_with (go_at_call 65; (with_reducible refine HC.out.mono ?_); rintro e w2 ⟨rfl, hb⟩)
 go_ret
 exact ⟨by simp only [← any_not_all]; first | rfl | simp, below_step (below_alloc (Below.refl _ _) _) hb⟩
set_option maxHeartbeats 4000000 in
theorem clo3_43 {rb : Nat} (p : Int → Bool) (x : Int)  (bx : Nat) (w : World) (hbx : w.cell? ⟨bx, 0, none⟩ = some (.func (.func 43) #[] #[.pointer (some ⟨rb, 0, none⟩)]))
  (hf : ∀ w1, Below w.heap.size w w1 → Calls Try.prog 43 #[.int .i64 x, .pointer (some ⟨rb, 0, none⟩)] w1 fun e w2 => e = .returned (.bool (p x)) ∧ Below w1.heap.size w1 w2) :
  Calls Try.prog 68 #[.int .i64 x, .pointer (some ⟨bx, 0, none⟩)] w fun e w2 => e = .returned (.bool (!p x)) ∧ Below w.heap.size w w2 := by
 have HF := Aside0.mk hf
 clear hf
 cases hp : p x
 all_goals
  have HF1 := HF.out
  simp only [hp] at HF1
  have HF1 := Aside0.mk HF1
  clear hp HF
  go_enter Try.func68, Try.ntmps68
  go_wp2_with (go_at_call 43; (with_reducible refine (HF1.out _ (Below.refl _ _)).mono ?_); rintro e w2 ⟨rfl, hb⟩)
  go_ret
  exact ⟨rfl, hb⟩
set_option maxHeartbeats 4000000 in
theorem all3_43 {rb : Nat} (p : Int → Bool) (xs : List Int) (A : Option Addr) (c : Nat) (w : World) (hr : Kd.C (Kd.int .i64) w A xs.length xs) (hlen : xs.length < 17592186044416)
  (hf : ∀ x, x ∈ xs → ∀ w1, Below w.heap.size w w1 → Calls Try.prog 43 #[.int .i64 x, .pointer (some ⟨rb, 0, none⟩)] w1 fun e w2 => e = .returned (.bool (p x)) ∧ Below w1.heap.size w1 w2) :
  Calls Try.prog 47 #[.slice A xs.length c, .func (.func 43) #[] #[.pointer (some ⟨rb, 0, none⟩)]] w fun e w' => e = .returned (.bool (xs.all p)) ∧ Below w.heap.size w w' := by
 have HF := Aside0.mk hf
 have HR := Aside0.mk (Kd.C_alloc hr (.cells #[.func (.func 43) #[] #[.pointer (some ⟨rb, 0, none⟩)]] 77))
 clear hf hr
 have hcon := con3 (fun x => !p x) xs A c w.heap.size (w.alloc (.cells #[.func (.func 43) #[] #[.pointer (some ⟨rb, 0, none⟩)]] 77)) HR.out hlen (fun x hx w1 hb => clo3_43 p x w.heap.size w1 ((hb.cell (p := ⟨w.heap.size, 0, none⟩) (by simp)).trans ((blk_cell (blk_new w _) 0).trans rfl)) (fun w2 hb2 => HF.out x hx w2 (below_step (below_step (below_alloc (Below.refl _ _) _) hb) hb2)))
 have HC := Aside0.mk hcon
 clear hcon
 go_enter Try.func47, Try.ntmps47
 go_wp2_with (go_at_call 67; (with_reducible refine HC.out.mono ?_); rintro e w2 ⟨rfl, hb⟩)
 go_ret
 exact ⟨by simp only [← any_not_all]; first | rfl | simp, below_step (below_alloc (Below.refl _ _) _) hb⟩
set_option maxHeartbeats 4000000 in
theorem clo3_71  (p : Int → Bool) (x : Int)  (bx : Nat) (w : World) (hbx : w.cell? ⟨bx, 0, none⟩ = some (.func (.func 71) #[] #[]))
  (hf : ∀ w1, Below w.heap.size w w1 → Calls Try.prog 71 #[.int .i64 x] w1 fun e w2 => e = .returned (.bool (p x)) ∧ Below w1.heap.size w1 w2) :
  Calls Try.prog 68 #[.int .i64 x, .pointer (some ⟨bx, 0, none⟩)] w fun e w2 => e = .returned (.bool (!p x)) ∧ Below w.heap.size w w2 := by
 have HF := Aside0.mk hf
 clear hf
 cases hp : p x
 all_goals
  have HF1 := HF.out
  simp only [hp] at HF1
  have HF1 := Aside0.mk HF1
  clear hp HF
  go_enter Try.func68, Try.ntmps68
  go_wp2_with (go_at_call 71; (with_reducible refine (HF1.out _ (Below.refl _ _)).mono ?_); rintro e w2 ⟨rfl, hb⟩)
  go_ret
  exact ⟨rfl, hb⟩
set_option maxHeartbeats 4000000 in
theorem all3_71  (p : Int → Bool) (xs : List Int) (A : Option Addr) (c : Nat) (w : World) (hr : Kd.C (Kd.int .i64) w A xs.length xs) (hlen : xs.length < 17592186044416)
  (hf : ∀ x, x ∈ xs → ∀ w1, Below w.heap.size w w1 → Calls Try.prog 71 #[.int .i64 x] w1 fun e w2 => e = .returned (.bool (p x)) ∧ Below w1.heap.size w1 w2) :
  Calls Try.prog 47 #[.slice A xs.length c, .func (.func 71) #[] #[]] w fun e w' => e = .returned (.bool (xs.all p)) ∧ Below w.heap.size w w' := by
 have HF := Aside0.mk hf
 have HR := Aside0.mk (Kd.C_alloc hr (.cells #[.func (.func 71) #[] #[]] 77))
 clear hf hr
 have hcon := con3 (fun x => !p x) xs A c w.heap.size (w.alloc (.cells #[.func (.func 71) #[] #[]] 77)) HR.out hlen (fun x hx w1 hb => clo3_71 p x w.heap.size w1 ((hb.cell (p := ⟨w.heap.size, 0, none⟩) (by simp)).trans ((blk_cell (blk_new w _) 0).trans rfl)) (fun w2 hb2 => HF.out x hx w2 (below_step (below_step (below_alloc (Below.refl _ _) _) hb) hb2)))
 have HC := Aside0.mk hcon
 clear hcon
 go_enter Try.func47, Try.ntmps47
 go_wp2_with (go_at_call 67; (with_reducible refine HC.out.mono ?_); rintro e w2 ⟨rfl, hb⟩)
 go_ret
 exact ⟨by simp only [← any_not_all]; first | rfl | simp, below_step (below_alloc (Below.refl _ _) _) hb⟩
set_option maxHeartbeats 4000000 in
theorem clo75_50 {rv : Value} (p : S75 → Bool) (x : S75) (A1 : Option Addr) (c1 : Nat) (bx : Nat) (w : World) (hbx : w.cell? ⟨bx, 0, none⟩ = some (.func (.func 50) #[rv] #[]))
  (hf : ∀ w1, Below w.heap.size w w1 → Calls Try.prog 50 #[rv, .agg #[.int .i64 x.f0, .slice A1 x.f1.length c1]] w1 fun e w2 => e = .returned (.bool (p x)) ∧ Below w1.heap.size w1 w2) :
  Calls Try.prog 70 #[.agg #[.int .i64 x.f0, .slice A1 x.f1.length c1], .pointer (some ⟨bx, 0, none⟩)] w fun e w2 => e = .returned (.bool (!p x)) ∧ Below w.heap.size w w2 := by
 have HF := Aside0.mk hf
 have hbo : ∀ o, (w.alloc o).cell? ⟨bx, 0, none⟩ = some (.func (.func 50) #[rv] #[]) := fun o => (World.cell?_alloc_lt _ _ _ (World.block_lt_of_cell? w _ hbx)).trans hbx
 clear hf
 cases hp : p x
 all_goals
  have HF1 := HF.out
  simp only [hp] at HF1
  have HF1 := Aside0.mk HF1
  clear hp HF
  go_enter Try.func70, Try.ntmps70
  go_wp2_with (go_at_call 50; (with_reducible refine (HF1.out _ (below_alloc (Below.refl _ _) _)).mono ?_); rintro e w2 ⟨rfl, hb⟩)
  go_ret
  exact ⟨rfl, below_step (below_alloc (Below.refl _ _) _) hb⟩
set_option maxHeartbeats 4000000 in
theorem all75_50 {rv : Value} (p : S75 → Bool) (xs : List S75) (A : Option Addr) (c : Nat) (w : World) (hr : Kd.C k75 w A xs.length xs) (hlen : xs.length < 17592186044416)
  (hf : ∀ x, x ∈ xs → ∀ w1, Below w.heap.size w w1 → ∀ (A1 : Option Addr) (c1 : Nat), x.f1.length ≤ c1 → (Kd.int .i64).C w1 A1 x.f1.length x.f1 → Calls Try.prog 50 #[rv, .agg #[.int .i64 x.f0, .slice A1 x.f1.length c1]] w1 fun e w2 => e = .returned (.bool (p x)) ∧ Below w1.heap.size w1 w2) :
  Calls Try.prog 49 #[.slice A xs.length c, .func (.func 50) #[rv] #[]] w fun e w' => e = .returned (.bool (xs.all p)) ∧ Below w.heap.size w w' := by
 have HF := Aside0.mk hf
 have HR := Aside0.mk (Kd.C_alloc hr (.cells #[.func (.func 50) #[rv] #[]] 82))
 clear hf hr
 have hcon := con75 (fun x => !p x) xs A c w.heap.size (w.alloc (.cells #[.func (.func 50) #[rv] #[]] 82)) HR.out hlen (fun x hx w1 hb A1 c1 hl1 hg1 => clo75_50 p x A1 c1 w.heap.size w1 ((hb.cell (p := ⟨w.heap.size, 0, none⟩) (by simp)).trans ((blk_cell (blk_new w _) 0).trans rfl)) (fun w2 hb2 => HF.out x hx w2 (below_step (below_step (below_alloc (Below.refl _ _) _) hb) hb2) A1 c1 hl1 (Kd.C_below hg1 hb2)))
 have HC := Aside0.mk hcon
 clear hcon
 go_enter Try.func49, Try.ntmps49
 go_wp2_with (go_at_call 69; (with_reducible refine HC.out.mono ?_); rintro e w2 ⟨rfl, hb⟩)
 go_ret
 exact ⟨by simp only [← any_not_all]; first | rfl | simp, below_step (below_alloc (Below.refl _ _) _) hb⟩
set_option maxHeartbeats 4000000 in
theorem clo23_63 {rb : Nat} (p : (List Int) → Bool) (x : (List Int)) (A1 : Option Addr) (c1 : Nat) (bx : Nat) (w : World) (hbx : w.cell? ⟨bx, 0, none⟩ = some (.func (.func 63) #[] #[.pointer (some ⟨rb, 0, none⟩)]))
  (hf : ∀ w1, Below w.heap.size w w1 → Calls Try.prog 63 #[.slice A1 x.length c1, .pointer (some ⟨rb, 0, none⟩)] w1 fun e w2 => e = .returned (.bool (p x)) ∧ Below w1.heap.size w1 w2) :
  Calls Try.prog 83 #[.slice A1 x.length c1, .pointer (some ⟨bx, 0, none⟩)] w fun e w2 => e = .returned (.bool (!p x)) ∧ Below w.heap.size w w2 := by
 have HF := Aside0.mk hf
 clear hf
 cases hp : p x
 all_goals
  have HF1 := HF.out
  simp only [hp] at HF1
  have HF1 := Aside0.mk HF1
  clear hp HF
  go_enter Try.func83, Try.ntmps83
  go_wp2_with (go_at_call 63; (with_reducible refine (HF1.out _ (Below.refl _ _)).mono ?_); rintro e w2 ⟨rfl, hb⟩)
  go_ret
  exact ⟨rfl, hb⟩
set_option maxHeartbeats 4000000 in
theorem all23_63 {rb : Nat} (p : (List Int) → Bool) (xs : List (List Int)) (A : Option Addr) (c : Nat) (w : World) (hr : Kd.C (Kd.slice 3 (Kd.int .i64)) w A xs.length xs) (hlen : xs.length < 17592186044416)
  (hf : ∀ x, x ∈ xs → ∀ w1, Below w.heap.size w w1 → ∀ (A1 : Option Addr) (c1 : Nat), x.length ≤ c1 → (Kd.int .i64).C w1 A1 x.length x → Calls Try.prog 63 #[.slice A1 x.length c1, .pointer (some ⟨rb, 0, none⟩)] w1 fun e w2 => e = .returned (.bool (p x)) ∧ Below w1.heap.size w1 w2) :
  Calls Try.prog 62 #[.slice A xs.length c, .func (.func 63) #[] #[.pointer (some ⟨rb, 0, none⟩)]] w fun e w' => e = .returned (.bool (xs.all p)) ∧ Below w.heap.size w w' := by
 have HF := Aside0.mk hf
 have HR := Aside0.mk (Kd.C_alloc hr (.cells #[.func (.func 63) #[] #[.pointer (some ⟨rb, 0, none⟩)]] 103))
 clear hf hr
 have hcon := con23 (fun x => !p x) xs A c w.heap.size (w.alloc (.cells #[.func (.func 63) #[] #[.pointer (some ⟨rb, 0, none⟩)]] 103)) HR.out hlen (fun x hx w1 hb A1 c1 hl1 hg1 => clo23_63 p x A1 c1 w.heap.size w1 ((hb.cell (p := ⟨w.heap.size, 0, none⟩) (by simp)).trans ((blk_cell (blk_new w _) 0).trans rfl)) (fun w2 hb2 => HF.out x hx w2 (below_step (below_step (below_alloc (Below.refl _ _) _) hb) hb2) A1 c1 hl1 (Kd.C_below hg1 hb2)))
 have HC := Aside0.mk hcon
 clear hcon
 go_enter Try.func62, Try.ntmps62
 go_wp2_with (go_at_call 82; (with_reducible refine HC.out.mono ?_); rintro e w2 ⟨rfl, hb⟩)
 go_ret
 exact ⟨by simp only [← any_not_all]; first | rfl | simp, below_step (below_alloc (Below.refl _ _) _) hb⟩
end Go.Proofs.Ytcpbhklaffgokaa.Q
