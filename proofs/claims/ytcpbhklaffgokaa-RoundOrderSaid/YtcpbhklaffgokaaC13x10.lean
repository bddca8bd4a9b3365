import Derived.Test.YtcpbhklaffgokaaC13x9
namespace Go.Proofs.Ytcpbhklaffgokaa.Q
open Go.RowKit Go.Proofs.YtcpbhklaffgokaaW.PrintWords Go.Proofs.YtcpbhklaffgokaaW.PrintLast Go.Proofs.YtcpbhklaffgokaaW.PrintMore
attribute [local go_sem] max2_int min2_int max_two min_two max_three min_three max_four min_four
set_option linter.unusedVariables false
set_option linter.unusedSimpArgs false
mutual
def tensileref08_Fault.j0 : Nat → Bool → List (S44) → List Int → Int → List (S62) → Option (Int)
 | 0, _, _, _, _, _ => none
 | k + 1, x23, x102000, x102001, x102002, x102003 => if x23 = true then (some 3) else (if (x102000.length : Int) = 0 then (tensileref08_Fault.j1 k true x102000 x102001 x102002 x102003) else ((tensileref08_In.f x102002 0 100).bind fun t102 => (tensileref08_Fault.j1 k (!t102) x102000 x102001 x102002 x102003)))
def tensileref08_Fault.j1 : Nat → Bool → List (S44) → List Int → Int → List (S62) → Option (Int)
 | 0, _, _, _, _, _ => none
 | k + 1, x33, x102000, x102001, x102002, x102003 => if x33 = true then (some 1) else (tensileref08_Fault.l0 k 0 x102000 x102001 x102002 x102003)
def tensileref08_Fault.l0 : Nat → Int → List (S44) → List Int → Int → List (S62) → Option (Int)
 | 0, _, _, _, _, _ => none
 | k + 1, x3, x102000, x102001, x102002, x102003 => if x3 < (x102000.length : Int) then (if 0 ≤ x3 then ((tensileref08_In.f ((rd_T44 x102000 x3).f0) 0 ((rd_T44 x102000 x3).f1)).bind fun t105 => (if t105 = true then (if ((rd_T44 x102000 x3).f1) > 1000 then (some 1) else (tensileref08_Fault.l0 k (wrap64 (x3 + 1)) x102000 x102001 x102002 x102003)) else (some 1))) else (none)) else (tensileref08_Fault.l1 k 0 x102000 x102001 x102002 x102003)
def tensileref08_Fault.l1 : Nat → Int → List (S44) → List Int → Int → List (S62) → Option (Int)
 | 0, _, _, _, _, _ => none
 | k + 1, x4, x102000, x102001, x102002, x102003 => if x4 < (x102001.length : Int) then (if 0 ≤ x4 then ((tensileref08_In.f (rd x102001 x4) 0 (wrap64 ((x102000.length : Int) - 1))).bind fun t108 => (if t108 = true then (tensileref08_Fault.l1 k (wrap64 (x4 + 1)) x102000 x102001 x102002 x102003) else (some 1))) else (none)) else (tensileref08_Fault.l2 k 0 x102000 x102001 x102002 x102003)
def tensileref08_Fault.l2 : Nat → Int → List (S44) → List Int → Int → List (S62) → Option (Int)
 | 0, _, _, _, _, _ => none
 | k + 1, x5, x102000, x102001, x102002, x102003 => if x5 < (x102003.length : Int) then (if 0 ≤ x5 then ((tensileref08_In.f ((rd_T62 x102003 x5).f0) 0 100).bind fun t111 => (if t111 = true then (tensileref08_Fault.j5 k x5 ((((rd_T62 x102003 x5).f1).length : Int) != (x102001.length : Int)) x102000 x102001 x102002 x102003 ((rd_T62 x102003 x5).f0) ((rd_T62 x102003 x5).f1)) else (tensileref08_Fault.j5 k x5 true x102000 x102001 x102002 x102003 ((rd_T62 x102003 x5).f0) ((rd_T62 x102003 x5).f1)))) else (none)) else (some 0)
def tensileref08_Fault.j5 : Nat → Int → Bool → List (S44) → List Int → Int → List (S62) → Int → List Int → Option (Int)
 | 0, _, _, _, _, _, _, _, _ => none
 | k + 1, x5, x106, x102000, x102001, x102002, x102003, x111000, x111001 => if x106 = true then (some 1) else (tensileref08_Fault.l3 k x5 0 x102000 x102001 x102002 x102003 x111000 x111001)
def tensileref08_Fault.l3 : Nat → Int → Int → List (S44) → List Int → Int → List (S62) → Int → List Int → Option (Int)
 | 0, _, _, _, _, _, _, _, _ => none
 | k + 1, x5, x7, x102000, x102001, x102002, x102003, x111000, x111001 => if x7 < (x111001.length : Int) then (if 0 ≤ x7 then ((tensileref08_In.f (rd x111001 x7) (-1) 1000).bind fun t113 => (if t113 = true then (tensileref08_Fault.l3 k x5 (wrap64 (x7 + 1)) x102000 x102001 x102002 x102003 x111000 x111001) else (some 1))) else (none)) else (tensileref08_Fault.l2 k (wrap64 (x5 + 1)) x102000 x102001 x102002 x102003)
end
def tensileref08_Fault.f (k : Nat) (l0_0 : List (S44)) (l0_1 : List Int) (a0_2 : Int) (l0_3 : List (S62)) : Option (Int) := if (l0_0.length : Int) > 4 then (tensileref08_Fault.j0 k true l0_0 l0_1 a0_2 l0_3) else (if (l0_1.length : Int) > 8 then (tensileref08_Fault.j0 k true l0_0 l0_1 a0_2 l0_3) else (tensileref08_Fault.j0 k (decide ((l0_3.length : Int) > 6)) l0_0 l0_1 a0_2 l0_3))
set_option maxHeartbeats 8000000 in
set_option maxRecDepth 100000 in
theorem tensileref08_Fault.calls (k : Nat) (A0_0 : Option Addr) (c0_0 : Nat) (l0_0 : List (S44)) (A0_1 : Option Addr) (c0_1 : Nat) (l0_1 : List Int) (a0_2 : Int) (A0_3 : Option Addr) (c0_3 : Nat) (l0_3 : List (S62)) (r : Int) (w : World) (hr0_0 : Kd.C k44 w A0_0 l0_0.length l0_0) (hc0_0 : l0_0.length ≤ c0_0) (hr0_1 : Kd.C (Kd.int .i64) w A0_1 l0_1.length l0_1) (hc0_1 : l0_1.length ≤ c0_1) (hr0_3 : Kd.C k62 w A0_3 l0_3.length l0_3) (hc0_3 : l0_3.length ≤ c0_3) (h : tensileref08_Fault.f k l0_0 l0_1 a0_2 l0_3 = some r) :
  Calls Try.prog 28 #[.agg #[.slice A0_0 l0_0.length c0_0, .slice A0_1 l0_1.length c0_1, .int .i64 a0_2, .slice A0_3 l0_3.length c0_3]] w fun e w' => e = .returned (.int .i64 r) ∧ Below w.heap.size w w' := by
 have hu26 := Try.underlying26
 have hu62 := Try.underlying62
 have HR0_0 := Aside0.mk hr0_0
 have HC0_0 := Aside0.mk hc0_0
 clear hr0_0 hc0_0
 have HR0_1 := Aside0.mk hr0_1
 have HC0_1 := Aside0.mk hc0_1
 clear hr0_1 hc0_1
 have HR0_3 := Aside0.mk hr0_3
 have HC0_3 := Aside0.mk hc0_3
 clear hr0_3 hc0_3
 have HB := Aside0.mk (Below.refl w.heap.size w)
 have H : (if (l0_0.length : Int) > 4 then (tensileref08_Fault.j0 k true l0_0 l0_1 a0_2 l0_3) else (if (l0_1.length : Int) > 8 then (tensileref08_Fault.j0 k true l0_0 l0_1 a0_2 l0_3) else (tensileref08_Fault.j0 k (decide ((l0_3.length : Int) > 6)) l0_0 l0_1 a0_2 l0_3))) = some r := h
 clear h
 have HC2 := Aside0.mk H
 clear H
 go_enter Try.func28, Try.ntmps28
 go_upto_region 1 with (first | ((with_reducible refine gate_dst (N := 1) rfl ?_); (try (refine gate_guard (by rfl) ?_; dsimp only)); refine box_event ?hg (N := 1) ?hd (cs := #[.slice A0_0 l0_0.length c0_0, .slice A0_1 l0_1.length c0_1, .int .i64 a0_2, .slice A0_3 l0_3.length c0_3]) (t := 26) ?hr ?_; (case hd => rfl); (case hg => rfl); (case hr => first | (go_simp; done) | (go_simp; rfl)); intro gb101 hg w3 hbox hb; have n0_ := Aside0.mk (below_step (by repeat (first | (with_reducible first | exact HB.out | apply below_alloc | apply pw_below_drewN | apply below_drew1) | exact HB.out)) hb); have n1_ := Aside0.mk (hbox); have n2_ := Aside0.mk ((by rw [hg]; exact (below_size (by repeat (first | (with_reducible first | exact HB.out | apply below_alloc | apply pw_below_drewN | apply below_drew1) | exact HB.out))) : w.heap.size ≤ gb101)); have n3_ := Aside0.mk ((by rw [hg]; exact (below_size (by repeat (first | (with_reducible first | exact HB.out | apply below_alloc | apply pw_below_drewN | apply below_drew1) | exact HB.out))) : w.heap.size ≤ gb101)); clear HB; have HB := n0_; have BK101 := n1_; have GW101 := n2_; have GE101 := n3_; clear n0_ n1_ n2_ n3_; clear hb hbox hg))
 repeat (go_quiet (first | ((with_reducible refine gate_dst (N := 1) rfl ?_); (try (refine gate_guard (by rfl) ?_; dsimp only)); refine box_event ?hg (N := 1) ?hd (cs := #[.slice A0_0 l0_0.length c0_0, .slice A0_1 l0_1.length c0_1, .int .i64 a0_2, .slice A0_3 l0_3.length c0_3]) (t := 26) ?hr ?_; (case hd => rfl); (case hg => rfl); (case hr => first | (go_simp; done) | (go_simp; rfl)); intro gb101 hg w3 hbox hb; have n0_ := Aside0.mk (below_step (by repeat (first | (with_reducible first | exact HB.out | apply below_alloc | apply pw_below_drewN | apply below_drew1) | exact HB.out)) hb); have n1_ := Aside0.mk (hbox); have n2_ := Aside0.mk ((by rw [hg]; exact (below_size (by repeat (first | (with_reducible first | exact HB.out | apply below_alloc | apply pw_below_drewN | apply below_drew1) | exact HB.out))) : w.heap.size ≤ gb101)); have n3_ := Aside0.mk ((by rw [hg]; exact (below_size (by repeat (first | (with_reducible first | exact HB.out | apply below_alloc | apply pw_below_drewN | apply below_drew1) | exact HB.out))) : w.heap.size ≤ gb101)); clear HB; have HB := n0_; have BK101 := n1_; have GW101 := n2_; have GE101 := n3_; clear n0_ n1_ n2_ n3_; clear hb hbox hg)); go_upto_region 1 with (first | ((with_reducible refine gate_dst (N := 1) rfl ?_); (try (refine gate_guard (by rfl) ?_; dsimp only)); refine box_event ?hg (N := 1) ?hd (cs := #[.slice A0_0 l0_0.length c0_0, .slice A0_1 l0_1.length c0_1, .int .i64 a0_2, .slice A0_3 l0_3.length c0_3]) (t := 26) ?hr ?_; (case hd => rfl); (case hg => rfl); (case hr => first | (go_simp; done) | (go_simp; rfl)); intro gb101 hg w3 hbox hb; have n0_ := Aside0.mk (below_step (by repeat (first | (with_reducible first | exact HB.out | apply below_alloc | apply pw_below_drewN | apply below_drew1) | exact HB.out)) hb); have n1_ := Aside0.mk (hbox); have n2_ := Aside0.mk ((by rw [hg]; exact (below_size (by repeat (first | (with_reducible first | exact HB.out | apply below_alloc | apply pw_below_drewN | apply below_drew1) | exact HB.out))) : w.heap.size ≤ gb101)); have n3_ := Aside0.mk ((by rw [hg]; exact (below_size (by repeat (first | (with_reducible first | exact HB.out | apply below_alloc | apply pw_below_drewN | apply below_drew1) | exact HB.out))) : w.heap.size ≤ gb101)); clear HB; have HB := n0_; have BK101 := n1_; have GW101 := n2_; have GE101 := n3_; clear n0_ n1_ n2_ n3_; clear hb hbox hg)))
 (try simp only [Act.put, List.setIfInBounds_toArray, List.set_cons_zero, List.set_cons_succ])
 go_cut [23] (fun v23 wc => ∃ (kq : Nat) (x23_1 : Bool), v23 = .bool x23_1 ∧ Aside0 (tensileref08_Fault.j0 kq x23_1 l0_0 l0_1 a0_2 l0_3 = some r) ∧ Aside0 (kq ≤ k) ∧ Aside0 (wc.heap[gb101]? = some (.cells #[(.slice A0_0 l0_0.length c0_0), (.slice A0_1 l0_1.length c0_1), .int .i64 a0_2, (.slice A0_3 l0_3.length c0_3)] 26 (0, 0))) ∧ Aside0 (Below w.heap.size w wc))
 case first =>
  have H := HC2.out
  clear HC2
  by_cases c4 : (l0_0.length : Int) > 4
  ·rw [if_pos c4] at H
   have c4b0 : decide (4 < (l0_0.length : Int)) = true := decide_eq_true c4
   have c4b1 : decide (4 < l0_0.length) = true := decide_eq_true (by omega)
   clear c4
   (first | rw [c4b0] | (simp only [i64_w, i32_w]; rw [c4b0]) | skip)
   have H' := Aside0.mk H
   clear H
   have hcz5_0 : w3.cell? ⟨gb101, 0, none⟩ = some (.slice A0_0 l0_0.length c0_0) := (blk_cell BK101.out 0).trans rfl
   have hcz5_1 : w3.cell? ⟨gb101, 1, none⟩ = some (.slice A0_1 l0_1.length c0_1) := (blk_cell BK101.out 1).trans rfl
   have hcz5_2 : w3.cell? ⟨gb101, 2, none⟩ = some (.int .i64 a0_2) := (blk_cell BK101.out 2).trans rfl
   have hcz5_3 : w3.cell? ⟨gb101, 3, none⟩ = some (.slice A0_3 l0_3.length c0_3) := (blk_cell BK101.out 3).trans rfl
   have hfz5_0 := blk_frozen BK101.out 0
   have hfz5_1 := blk_frozen BK101.out 1
   have hfz5_2 := blk_frozen BK101.out 2
   have hfz5_3 := blk_frozen BK101.out 3
   go_wp2
   repeat (go_quiet (fail); try go_wp2)
   go_meet
   case rel => exact ⟨_, (true), (by first | rfl | (simp; done) | (simp [*]; done)), H', ⟨by first | omega | exact Nat.le_refl _⟩, ⟨by (with_reducible repeat (first | refine blk_drewN ?_ _ | refine blk_drew ?_ | refine blk_alloc ?_ _)); exact BK101.out⟩, ⟨by repeat (first | (with_reducible first | exact HB.out | apply below_alloc | apply pw_below_drewN | apply below_drew1 | refine below_set ?_ GE101.out) | exact HB.out)⟩⟩
  ·rw [if_neg c4] at H
   have c4b0 : decide (4 < (l0_0.length : Int)) = false := decide_eq_false c4
   have c4b1 : decide (4 < l0_0.length) = false := decide_eq_false (by omega)
   clear c4
   (first | rw [c4b0] | (simp only [i64_w, i32_w]; rw [c4b0]) | skip)
   by_cases c6 : (l0_1.length : Int) > 8
   ·rw [if_pos c6] at H
    have c6b0 : decide (8 < (l0_1.length : Int)) = true := decide_eq_true c6
    have c6b1 : decide (8 < l0_1.length) = true := decide_eq_true (by omega)
    clear c6
    have H' := Aside0.mk H
    clear H
    have hcz7_0 : w3.cell? ⟨gb101, 0, none⟩ = some (.slice A0_0 l0_0.length c0_0) := (blk_cell BK101.out 0).trans rfl
    have hcz7_1 : w3.cell? ⟨gb101, 1, none⟩ = some (.slice A0_1 l0_1.length c0_1) := (blk_cell BK101.out 1).trans rfl
    have hcz7_2 : w3.cell? ⟨gb101, 2, none⟩ = some (.int .i64 a0_2) := (blk_cell BK101.out 2).trans rfl
    have hcz7_3 : w3.cell? ⟨gb101, 3, none⟩ = some (.slice A0_3 l0_3.length c0_3) := (blk_cell BK101.out 3).trans rfl
    have hfz7_0 := blk_frozen BK101.out 0
    have hfz7_1 := blk_frozen BK101.out 1
    have hfz7_2 := blk_frozen BK101.out 2
    have hfz7_3 := blk_frozen BK101.out 3
    go_wp2
    repeat (go_quiet (fail); try go_wp2)
    go_meet
    case rel => exact ⟨_, (true), (by first | rfl | (simp; done) | (simp [*]; done)), H', ⟨by first | omega | exact Nat.le_refl _⟩, ⟨by (with_reducible repeat (first | refine blk_drewN ?_ _ | refine blk_drew ?_ | refine blk_alloc ?_ _)); exact BK101.out⟩, ⟨by repeat (first | (with_reducible first | exact HB.out | apply below_alloc | apply pw_below_drewN | apply below_drew1 | refine below_set ?_ GE101.out) | exact HB.out)⟩⟩
   ·rw [if_neg c6] at H
    have c6b0 : decide (8 < (l0_1.length : Int)) = false := decide_eq_false c6
    have c6b1 : decide (8 < l0_1.length) = false := decide_eq_false (by omega)
    clear c6
    have H' := Aside0.mk H
    clear H
    have hcz8_0 : w3.cell? ⟨gb101, 0, none⟩ = some (.slice A0_0 l0_0.length c0_0) := (blk_cell BK101.out 0).trans rfl
    have hcz8_1 : w3.cell? ⟨gb101, 1, none⟩ = some (.slice A0_1 l0_1.length c0_1) := (blk_cell BK101.out 1).trans rfl
    have hcz8_2 : w3.cell? ⟨gb101, 2, none⟩ = some (.int .i64 a0_2) := (blk_cell BK101.out 2).trans rfl
    have hcz8_3 : w3.cell? ⟨gb101, 3, none⟩ = some (.slice A0_3 l0_3.length c0_3) := (blk_cell BK101.out 3).trans rfl
    have hfz8_0 := blk_frozen BK101.out 0
    have hfz8_1 := blk_frozen BK101.out 1
    have hfz8_2 := blk_frozen BK101.out 2
    have hfz8_3 := blk_frozen BK101.out 3
    go_wp2
    repeat (go_quiet (fail); try go_wp2)
    go_meet
    case rel => exact ⟨_, (decide ((l0_3.length : Int) > 6)), (by first | rfl | (simp; done) | (simp [*]; done)), H', ⟨by first | omega | exact Nat.le_refl _⟩, ⟨by (with_reducible repeat (first | refine blk_drewN ?_ _ | refine blk_drew ?_ | refine blk_alloc ?_ _)); exact BK101.out⟩, ⟨by repeat (first | (with_reducible first | exact HB.out | apply below_alloc | apply pw_below_drewN | apply below_drew1 | refine below_set ?_ GE101.out) | exact HB.out)⟩⟩
 case rest =>
  clear HC2
  try clear c2
  try clear p2
  try clear c4
  try clear c4b0
  try clear c4b1
  try clear c6
  try clear c6b0
  try clear c6b1
  try clear hcz5_0
  try clear hcz5_1
  try clear hcz5_2
  try clear hcz5_3
  try clear hcz7_0
  try clear hcz7_1
  try clear hcz7_2
  try clear hcz7_3
  try clear hcz8_0
  try clear hcz8_1
  try clear hcz8_2
  try clear hcz8_3
  try clear hfz5_0
  try clear hfz5_1
  try clear hfz5_2
  try clear hfz5_3
  try clear hfz7_0
  try clear hfz7_1
  try clear hfz7_2
  try clear hfz7_3
  try clear hfz8_0
  try clear hfz8_1
  try clear hfz8_2
  try clear hfz8_3
  obtain ⟨kq, x23_1, rfl, HA, HJ1, BK101, HB⟩ := hcut
  cases kq with
  | zero => exact absurd HA.out (by simp [tensileref08_Fault.j0])
  | succ kj1 =>
   have H := HA.out
   clear HA
   simp only [tensileref08_Fault.j0] at H
   by_cases c9 : x23_1 = true
   ·subst c9
    have H1 : (some 3) = some r := by rw [if_pos rfl] at H; exact H
    clear H
    have H := H1
    clear H1
    obtain rfl := Option.some.inj H
    go_wp2
    repeat (go_quiet (fail); try go_wp2)
    go_ret
    exact ⟨by first | rfl | (simp [errW_none, errW_some] <;> rfl) | (simp [*, errW_none, errW_some] <;> rfl), by repeat (first | (with_reducible first | exact HB.out | apply below_alloc | apply pw_below_drewN | apply below_drew1 | refine below_set ?_ GE101.out) | exact HB.out)⟩
   ·replace c9 := Bool.eq_false_iff.mpr c9
    subst c9
    have H1 : (if (l0_0.length : Int) = 0 then (tensileref08_Fault.j1 kj1 true l0_0 l0_1 a0_2 l0_3) else ((tensileref08_In.f a0_2 0 100).bind fun t102 => (tensileref08_Fault.j1 kj1 (!t102) l0_0 l0_1 a0_2 l0_3))) = some r := by rw [if_neg (show ¬ (false = true) by decide)] at H; exact H
    clear H
    have H := H1
    clear H1
    have HC10 := Aside0.mk H
    clear H
    go_upto_region 3 with (fail)
    repeat (go_quiet (fail); go_upto_region 3 with (fail))
    go_cut [33] (fun v33 wc => ∃ (kq : Nat) (x33_9 : Bool), v33 = .bool x33_9 ∧ Aside0 (tensileref08_Fault.j1 kq x33_9 l0_0 l0_1 a0_2 l0_3 = some r) ∧ Aside0 (kq ≤ kj1) ∧ Aside0 (wc.heap[gb101]? = some (.cells #[(.slice A0_0 l0_0.length c0_0), (.slice A0_1 l0_1.length c0_1), .int .i64 a0_2, (.slice A0_3 l0_3.length c0_3)] 26 (0, 0))) ∧ Aside0 (Below w.heap.size w wc))
    case first =>
     have H := HC10.out
     clear HC10
     by_cases c11 : (l0_0.length : Int) = 0
     ·rw [if_pos c11] at H
      have c11b0 : ((l0_0.length : Int) == 0) = true := beq_iff_eq.mpr c11
      have c11b1 : ((l0_0.length : Int) != 0) = false := bne_eq_false_iff_eq.mpr c11
      clear c11
      (first | rw [c11b0] | (simp only [i64_w, i32_w]; rw [c11b0]) | skip)
      have H' := Aside0.mk H
      clear H
      have hcz12_0 : wc.cell? ⟨gb101, 0, none⟩ = some (.slice A0_0 l0_0.length c0_0) := (blk_cell BK101.out 0).trans rfl
      have hcz12_1 : wc.cell? ⟨gb101, 1, none⟩ = some (.slice A0_1 l0_1.length c0_1) := (blk_cell BK101.out 1).trans rfl
      have hcz12_2 : wc.cell? ⟨gb101, 2, none⟩ = some (.int .i64 a0_2) := (blk_cell BK101.out 2).trans rfl
      have hcz12_3 : wc.cell? ⟨gb101, 3, none⟩ = some (.slice A0_3 l0_3.length c0_3) := (blk_cell BK101.out 3).trans rfl
      have hfz12_0 := blk_frozen BK101.out 0
      have hfz12_1 := blk_frozen BK101.out 1
      have hfz12_2 := blk_frozen BK101.out 2
      have hfz12_3 := blk_frozen BK101.out 3
      go_wp2
      repeat (go_quiet (fail); try go_wp2)
      go_meet
      case rel => exact ⟨_, (true), (by first | rfl | (simp; done) | (simp [*]; done)), H', ⟨by have := HJ1.out; first | omega | exact Nat.le_refl _⟩, ⟨by (with_reducible repeat (first | refine blk_drewN ?_ _ | refine blk_drew ?_ | refine blk_alloc ?_ _)); exact BK101.out⟩, ⟨by repeat (first | (with_reducible first | exact HB.out | apply below_alloc | apply pw_below_drewN | apply below_drew1 | refine below_set ?_ GE101.out) | exact HB.out)⟩⟩
     ·rw [if_neg c11] at H
      have c11b0 : ((l0_0.length : Int) == 0) = false := beq_eq_false_iff_ne.mpr c11
      have c11b1 : ((l0_0.length : Int) != 0) = true := bne_iff_ne.mpr c11
      have c11b2 : ¬ (l0_0 = []) := fun h_ => c11 (by rw [h_]; rfl)
      (first | rw [c11b0] | (simp only [i64_w, i32_w]; rw [c11b0]) | skip)
      replace H := Option.bind_eq_some_iff.mp H
      obtain ⟨t102, A130, H⟩ := H
      replace H : (tensileref08_Fault.j1 kj1 (!t102) l0_0 l0_1 a0_2 l0_3) = some r := H
      have A13 := Aside0.mk A130
      clear A130
      have H' := Aside0.mk H
      clear H
      have hcz14_0 : wc.cell? ⟨gb101, 0, none⟩ = some (.slice A0_0 l0_0.length c0_0) := (blk_cell BK101.out 0).trans rfl
      have hcz14_1 : wc.cell? ⟨gb101, 1, none⟩ = some (.slice A0_1 l0_1.length c0_1) := (blk_cell BK101.out 1).trans rfl
      have hcz14_2 : wc.cell? ⟨gb101, 2, none⟩ = some (.int .i64 a0_2) := (blk_cell BK101.out 2).trans rfl
      have hcz14_3 : wc.cell? ⟨gb101, 3, none⟩ = some (.slice A0_3 l0_3.length c0_3) := (blk_cell BK101.out 3).trans rfl
      have hfz14_0 := blk_frozen BK101.out 0
      have hfz14_1 := blk_frozen BK101.out 1
      have hfz14_2 := blk_frozen BK101.out 2
      have hfz14_3 := blk_frozen BK101.out 3
      go_wp2_with (first | (go_at_call 33; (with_reducible refine (tensileref08_In.calls a0_2 0 100 t102 _ A13.out).mono ?_); rintro e w' ⟨rfl, ⟨nd, rfl⟩⟩; (try first | exact ⟨rfl, _, World.drewN_drewN _ _ _⟩ | exact ⟨rfl, _, Eq.trans (World.drewN_drewN _ _ _) (congrArg (World.drewN _) (Nat.add_assoc _ _ _))⟩)))
      repeat (go_quiet (first | (go_at_call 33; (with_reducible refine (tensileref08_In.calls a0_2 0 100 t102 _ A13.out).mono ?_); rintro e w' ⟨rfl, ⟨nd, rfl⟩⟩; (try first | exact ⟨rfl, _, World.drewN_drewN _ _ _⟩ | exact ⟨rfl, _, Eq.trans (World.drewN_drewN _ _ _) (congrArg (World.drewN _) (Nat.add_assoc _ _ _))⟩))); try go_wp2_with (first | (go_at_call 33; (with_reducible refine (tensileref08_In.calls a0_2 0 100 t102 _ A13.out).mono ?_); rintro e w' ⟨rfl, ⟨nd, rfl⟩⟩; (try first | exact ⟨rfl, _, World.drewN_drewN _ _ _⟩ | exact ⟨rfl, _, Eq.trans (World.drewN_drewN _ _ _) (congrArg (World.drewN _) (Nat.add_assoc _ _ _))⟩))))
      go_meet
      case rel => exact ⟨_, (!t102), (by first | rfl | (simp; done) | (simp [*]; done)), H', ⟨by have := HJ1.out; first | omega | exact Nat.le_refl _⟩, ⟨by (with_reducible repeat (first | refine blk_drewN ?_ _ | refine blk_drew ?_ | refine blk_alloc ?_ _)); exact BK101.out⟩, ⟨by repeat (first | (with_reducible first | exact HB.out | apply below_alloc | apply pw_below_drewN | apply below_drew1 | refine below_set ?_ GE101.out) | exact HB.out)⟩⟩
    case rest =>
     clear HC10
     try clear c1
     try clear c2
     try clear p2
     try clear c4
     try clear c4b0
     try clear c4b1
     try clear c6
     try clear c6b0
     try clear c6b1
     try clear c9
     try clear c11
     try clear c11b0
     try clear c11b1
     try clear c11b2
     try clear hcz12_0
     try clear hcz12_1
     try clear hcz12_2
     try clear hcz12_3
     try clear hcz14_0
     try clear hcz14_1
     try clear hcz14_2
     try clear hcz14_3
     try clear hcz5_0
     try clear hcz5_1
     try clear hcz5_2
     try clear hcz5_3
     try clear hcz7_0
     try clear hcz7_1
     try clear hcz7_2
     try clear hcz7_3
     try clear hcz8_0
     try clear hcz8_1
     try clear hcz8_2
     try clear hcz8_3
     try clear hfz12_0
     try clear hfz12_1
     try clear hfz12_2
     try clear hfz12_3
     try clear hfz14_0
     try clear hfz14_1
     try clear hfz14_2
     try clear hfz14_3
     try clear hfz5_0
     try clear hfz5_1
     try clear hfz5_2
     try clear hfz5_3
     try clear hfz7_0
     try clear hfz7_1
     try clear hfz7_2
     try clear hfz7_3
     try clear hfz8_0
     try clear hfz8_1
     try clear hfz8_2
     try clear hfz8_3
     try clear p2
     obtain ⟨kq, x33_9, rfl, HA, HJ9, BK101, HB⟩ := hcut
     cases kq with
     | zero => exact absurd HA.out (by simp [tensileref08_Fault.j1])
     | succ kj9 =>
      have H := HA.out
      clear HA
      simp only [tensileref08_Fault.j1] at H
      by_cases c15 : x33_9 = true
      ·subst c15
       have H1 : (some 1) = some r := by rw [if_pos rfl] at H; exact H
       clear H
       have H := H1
       clear H1
       obtain rfl := Option.some.inj H
       go_wp2
       repeat (go_quiet (fail); try go_wp2)
       go_ret
       exact ⟨by first | rfl | (simp [errW_none, errW_some] <;> rfl) | (simp [*, errW_none, errW_some] <;> rfl), by repeat (first | (with_reducible first | exact HB.out | apply below_alloc | apply pw_below_drewN | apply below_drew1 | refine below_set ?_ GE101.out) | exact HB.out)⟩
      ·replace c15 := Bool.eq_false_iff.mpr c15
       subst c15
       have H1 : (tensileref08_Fault.l0 kj9 0 l0_0 l0_1 a0_2 l0_3) = some r := by rw [if_neg (show ¬ (false = true) by decide)] at H; exact H
       clear H
       have H := H1
       clear H1
       have H' := Aside0.mk H
       clear H
       go_wp2
       repeat (go_quiet (fail); try go_wp2)
       go_loopg [3] kj9 (fun kq v3 w' => ∃ (x3_3 : Int), v3 = .int .i64 x3_3 ∧ Aside0 (tensileref08_Fault.l0 kq x3_3 l0_0 l0_1 a0_2 l0_3 = some r) ∧ Aside0 (kq ≤ kj9) ∧ Aside0 (w'.heap[gb101]? = some (.cells #[(.slice A0_0 l0_0.length c0_0), (.slice A0_1 l0_1.length c0_1), .int .i64 a0_2, (.slice A0_3 l0_3.length c0_3)] 26 (0, 0))) ∧ Aside0 (Below w.heap.size w w'))
       case atStart => exact ⟨(0), (by first | rfl | (simp; done) | (simp [*]; done)), H', ⟨Nat.le_refl _⟩, ⟨by (with_reducible repeat (first | refine blk_drewN ?_ _ | refine blk_drew ?_ | refine blk_alloc ?_ _)); exact BK101.out⟩, ⟨by repeat (first | (with_reducible first | exact HB.out | apply below_alloc | apply pw_below_drewN | apply below_drew1 | refine below_set ?_ GE101.out) | exact HB.out)⟩⟩
       case round =>
        clear H'
        try clear c1
        try clear c2
        try clear p2
        try clear c4
        try clear c4b0
        try clear c4b1
        try clear c6
        try clear c6b0
        try clear c6b1
        try clear c9
        try clear c11
        try clear c11b0
        try clear c11b1
        try clear c11b2
        try clear c15
        try clear hcz12_0
        try clear hcz12_1
        try clear hcz12_2
        try clear hcz12_3
        try clear hcz14_0
        try clear hcz14_1
        try clear hcz14_2
        try clear hcz14_3
        try clear hcz5_0
        try clear hcz5_1
        try clear hcz5_2
        try clear hcz5_3
        try clear hcz7_0
        try clear hcz7_1
        try clear hcz7_2
        try clear hcz7_3
        try clear hcz8_0
        try clear hcz8_1
        try clear hcz8_2
        try clear hcz8_3
        try clear hfz12_0
        try clear hfz12_1
        try clear hfz12_2
        try clear hfz12_3
        try clear hfz14_0
        try clear hfz14_1
        try clear hfz14_2
        try clear hfz14_3
        try clear hfz5_0
        try clear hfz5_1
        try clear hfz5_2
        try clear hfz5_3
        try clear hfz7_0
        try clear hfz7_1
        try clear hfz7_2
        try clear hfz7_3
        try clear hfz8_0
        try clear hfz8_1
        try clear hfz8_2
        try clear hfz8_3
        try clear p2
        obtain ⟨x3_3, rfl, HA, HK3, BK101, HB⟩ := hrel
        cases gk with
        | zero => exact absurd HA.out (by simp [tensileref08_Fault.l0])
        | succ k3 =>
         have H := HA.out
         clear HA
         simp only [tensileref08_Fault.l0] at H
         by_cases c16 : x3_3 < (l0_0.length : Int)
         ·rw [if_pos c16] at H
          have c16b0 : decide (x3_3 < (l0_0.length : Int)) = true := decide_eq_true c16
          clear c16
          by_cases c17 : 0 ≤ x3_3
          ·rw [if_pos c17] at H
           have c17b0 : decide (0 ≤ x3_3) = true := decide_eq_true c17
           clear c17
           replace H := Option.bind_eq_some_iff.mp H
           obtain ⟨t105, A180, H⟩ := H
           replace H : (if t105 = true then (if ((rd_T44 l0_0 x3_3).f1) > 1000 then (some 1) else (tensileref08_Fault.l0 k3 (wrap64 (x3_3 + 1)) l0_0 l0_1 a0_2 l0_3)) else (some 1)) = some r := H
           have A18 := Aside0.mk A180
           clear A180
           by_cases c19 : t105 = true
           ·subst c19
            have H1 : (if ((rd_T44 l0_0 x3_3).f1) > 1000 then (some 1) else (tensileref08_Fault.l0 k3 (wrap64 (x3_3 + 1)) l0_0 l0_1 a0_2 l0_3)) = some r := by rw [if_pos rfl] at H; exact H
            clear H
            have H := H1
            clear H1
            by_cases c20 : ((rd_T44 l0_0 x3_3).f1) > 1000
            ·rw [if_pos c20] at H
             have c20b0 : decide (1000 < ((rd_T44 l0_0 x3_3).f1)) = true := decide_eq_true c20
             clear c20
             obtain rfl := Option.some.inj H
             have hcz21_0 : wr.cell? ⟨gb101, 0, none⟩ = some (.slice A0_0 l0_0.length c0_0) := (blk_cell BK101.out 0).trans rfl
             have hcz21_1 : wr.cell? ⟨gb101, 1, none⟩ = some (.slice A0_1 l0_1.length c0_1) := (blk_cell BK101.out 1).trans rfl
             have hcz21_2 : wr.cell? ⟨gb101, 2, none⟩ = some (.int .i64 a0_2) := (blk_cell BK101.out 2).trans rfl
             have hcz21_3 : wr.cell? ⟨gb101, 3, none⟩ = some (.slice A0_3 l0_3.length c0_3) := (blk_cell BK101.out 3).trans rfl
             have hfz21_0 := blk_frozen BK101.out 0
             have hfz21_1 := blk_frozen BK101.out 1
             have hfz21_2 := blk_frozen BK101.out 2
             have hfz21_3 := blk_frozen BK101.out 3
             have p103 : 0 ≤ (x3_3 : Int) := of_decide_eq_true (by first | (with_reducible assumption) | assumption)
             have q103 : x3_3 < (l0_0.length : Int) := of_decide_eq_true (by first | (with_reducible assumption) | assumption)
             obtain ⟨ad103, e103, hx103_0, hx103_1⟩ := at_T44 HR0_0.out x3_3 p103 q103
             cases e103
             replace hx103_0 := (HB.out.cell (World.block_lt_of_cell? w _ hx103_0)).trans hx103_0
             replace hx103_1 := (HB.out.cell (World.block_lt_of_cell? w _ hx103_1)).trans hx103_1
             replace p103 := eq_true p103
             replace q103 := eq_true q103
             have p104 : 0 ≤ (x3_3 : Int) := of_decide_eq_true (by first | (with_reducible assumption) | assumption)
             have q104 : x3_3 < (l0_0.length : Int) := of_decide_eq_true (by first | (with_reducible assumption) | assumption)
             obtain ⟨ad104, e104, hx104_0, hx104_1⟩ := at_T44 HR0_0.out x3_3 p104 q104
             obtain rfl : ad103 = ad104 := (by injection e104)
             replace hx104_0 := (HB.out.cell (World.block_lt_of_cell? w _ hx104_0)).trans hx104_0
             replace hx104_1 := (HB.out.cell (World.block_lt_of_cell? w _ hx104_1)).trans hx104_1
             replace p104 := eq_true p104
             replace q104 := eq_true q104
             go_wp2_with (first | (go_at_call 33; (with_reducible refine (tensileref08_In.calls ((rd_T44 l0_0 x3_3).f0) 0 ((rd_T44 l0_0 x3_3).f1) true _ A18.out).mono ?_); rintro e w' ⟨rfl, ⟨nd, rfl⟩⟩; (try first | exact ⟨rfl, _, World.drewN_drewN _ _ _⟩ | exact ⟨rfl, _, Eq.trans (World.drewN_drewN _ _ _) (congrArg (World.drewN _) (Nat.add_assoc _ _ _))⟩); have p106 : 0 ≤ (x3_3 : Int) := of_decide_eq_true (by first | (with_reducible assumption) | assumption); have q106 : x3_3 < (l0_0.length : Int) := of_decide_eq_true (by first | (with_reducible assumption) | assumption); obtain ⟨ad106, e106, hx106_0, hx106_1⟩ := at_T44 HR0_0.out x3_3 p106 q106; obtain rfl : ad103 = ad106 := (by injection e106); replace hx106_0 := (HB.out.cell (World.block_lt_of_cell? w _ hx106_0)).trans hx106_0; replace hx106_1 := (HB.out.cell (World.block_lt_of_cell? w _ hx106_1)).trans hx106_1; replace p106 := eq_true p106; replace q106 := eq_true q106))
             repeat (go_quiet (first | (go_at_call 33; (with_reducible refine (tensileref08_In.calls ((rd_T44 l0_0 x3_3).f0) 0 ((rd_T44 l0_0 x3_3).f1) true _ A18.out).mono ?_); rintro e w' ⟨rfl, ⟨nd, rfl⟩⟩; (try first | exact ⟨rfl, _, World.drewN_drewN _ _ _⟩ | exact ⟨rfl, _, Eq.trans (World.drewN_drewN _ _ _) (congrArg (World.drewN _) (Nat.add_assoc _ _ _))⟩); have p106 : 0 ≤ (x3_3 : Int) := of_decide_eq_true (by first | (with_reducible assumption) | assumption); have q106 : x3_3 < (l0_0.length : Int) := of_decide_eq_true (by first | (with_reducible assumption) | assumption); obtain ⟨ad106, e106, hx106_0, hx106_1⟩ := at_T44 HR0_0.out x3_3 p106 q106; obtain rfl : ad103 = ad106 := (by injection e106); replace hx106_0 := (HB.out.cell (World.block_lt_of_cell? w _ hx106_0)).trans hx106_0; replace hx106_1 := (HB.out.cell (World.block_lt_of_cell? w _ hx106_1)).trans hx106_1; replace p106 := eq_true p106; replace q106 := eq_true q106)); try go_wp2_with (first | (go_at_call 33; (with_reducible refine (tensileref08_In.calls ((rd_T44 l0_0 x3_3).f0) 0 ((rd_T44 l0_0 x3_3).f1) true _ A18.out).mono ?_); rintro e w' ⟨rfl, ⟨nd, rfl⟩⟩; (try first | exact ⟨rfl, _, World.drewN_drewN _ _ _⟩ | exact ⟨rfl, _, Eq.trans (World.drewN_drewN _ _ _) (congrArg (World.drewN _) (Nat.add_assoc _ _ _))⟩); have p106 : 0 ≤ (x3_3 : Int) := of_decide_eq_true (by first | (with_reducible assumption) | assumption); have q106 : x3_3 < (l0_0.length : Int) := of_decide_eq_true (by first | (with_reducible assumption) | assumption); obtain ⟨ad106, e106, hx106_0, hx106_1⟩ := at_T44 HR0_0.out x3_3 p106 q106; obtain rfl : ad103 = ad106 := (by injection e106); replace hx106_0 := (HB.out.cell (World.block_lt_of_cell? w _ hx106_0)).trans hx106_0; replace hx106_1 := (HB.out.cell (World.block_lt_of_cell? w _ hx106_1)).trans hx106_1; replace p106 := eq_true p106; replace q106 := eq_true q106)))
             go_ret
             exact ⟨by first | rfl | (simp [errW_none, errW_some] <;> rfl) | (simp [*, errW_none, errW_some] <;> rfl), by repeat (first | (with_reducible first | exact HB.out | apply below_alloc | apply pw_below_drewN | apply below_drew1 | refine below_set ?_ GE101.out) | exact HB.out)⟩
            ·rw [if_neg c20] at H
             have c20b0 : decide (1000 < ((rd_T44 l0_0 x3_3).f1)) = false := decide_eq_false c20
             clear c20
             have H' := Aside0.mk H
             clear H
             have hcz22_0 : wr.cell? ⟨gb101, 0, none⟩ = some (.slice A0_0 l0_0.length c0_0) := (blk_cell BK101.out 0).trans rfl
             have hcz22_1 : wr.cell? ⟨gb101, 1, none⟩ = some (.slice A0_1 l0_1.length c0_1) := (blk_cell BK101.out 1).trans rfl
             have hcz22_2 : wr.cell? ⟨gb101, 2, none⟩ = some (.int .i64 a0_2) := (blk_cell BK101.out 2).trans rfl
             have hcz22_3 : wr.cell? ⟨gb101, 3, none⟩ = some (.slice A0_3 l0_3.length c0_3) := (blk_cell BK101.out 3).trans rfl
             have hfz22_0 := blk_frozen BK101.out 0
             have hfz22_1 := blk_frozen BK101.out 1
             have hfz22_2 := blk_frozen BK101.out 2
             have hfz22_3 := blk_frozen BK101.out 3
             have p103 : 0 ≤ (x3_3 : Int) := of_decide_eq_true (by first | (with_reducible assumption) | assumption)
             have q103 : x3_3 < (l0_0.length : Int) := of_decide_eq_true (by first | (with_reducible assumption) | assumption)
             obtain ⟨ad103, e103, hx103_0, hx103_1⟩ := at_T44 HR0_0.out x3_3 p103 q103
             cases e103
             replace hx103_0 := (HB.out.cell (World.block_lt_of_cell? w _ hx103_0)).trans hx103_0
             replace hx103_1 := (HB.out.cell (World.block_lt_of_cell? w _ hx103_1)).trans hx103_1
             replace p103 := eq_true p103
             replace q103 := eq_true q103
             have p104 : 0 ≤ (x3_3 : Int) := of_decide_eq_true (by first | (with_reducible assumption) | assumption)
             have q104 : x3_3 < (l0_0.length : Int) := of_decide_eq_true (by first | (with_reducible assumption) | assumption)
             obtain ⟨ad104, e104, hx104_0, hx104_1⟩ := at_T44 HR0_0.out x3_3 p104 q104
             obtain rfl : ad103 = ad104 := (by injection e104)
             replace hx104_0 := (HB.out.cell (World.block_lt_of_cell? w _ hx104_0)).trans hx104_0
             replace hx104_1 := (HB.out.cell (World.block_lt_of_cell? w _ hx104_1)).trans hx104_1
             replace p104 := eq_true p104
             replace q104 := eq_true q104
             go_wp2_with (first | (go_at_call 33; (with_reducible refine (tensileref08_In.calls ((rd_T44 l0_0 x3_3).f0) 0 ((rd_T44 l0_0 x3_3).f1) true _ A18.out).mono ?_); rintro e w' ⟨rfl, ⟨nd, rfl⟩⟩; (try first | exact ⟨rfl, _, World.drewN_drewN _ _ _⟩ | exact ⟨rfl, _, Eq.trans (World.drewN_drewN _ _ _) (congrArg (World.drewN _) (Nat.add_assoc _ _ _))⟩); have p106 : 0 ≤ (x3_3 : Int) := of_decide_eq_true (by first | (with_reducible assumption) | assumption); have q106 : x3_3 < (l0_0.length : Int) := of_decide_eq_true (by first | (with_reducible assumption) | assumption); obtain ⟨ad106, e106, hx106_0, hx106_1⟩ := at_T44 HR0_0.out x3_3 p106 q106; obtain rfl : ad103 = ad106 := (by injection e106); replace hx106_0 := (HB.out.cell (World.block_lt_of_cell? w _ hx106_0)).trans hx106_0; replace hx106_1 := (HB.out.cell (World.block_lt_of_cell? w _ hx106_1)).trans hx106_1; replace p106 := eq_true p106; replace q106 := eq_true q106))
             repeat (go_quiet (first | (go_at_call 33; (with_reducible refine (tensileref08_In.calls ((rd_T44 l0_0 x3_3).f0) 0 ((rd_T44 l0_0 x3_3).f1) true _ A18.out).mono ?_); rintro e w' ⟨rfl, ⟨nd, rfl⟩⟩; (try first | exact ⟨rfl, _, World.drewN_drewN _ _ _⟩ | exact ⟨rfl, _, Eq.trans (World.drewN_drewN _ _ _) (congrArg (World.drewN _) (Nat.add_assoc _ _ _))⟩); have p106 : 0 ≤ (x3_3 : Int) := of_decide_eq_true (by first | (with_reducible assumption) | assumption); have q106 : x3_3 < (l0_0.length : Int) := of_decide_eq_true (by first | (with_reducible assumption) | assumption); obtain ⟨ad106, e106, hx106_0, hx106_1⟩ := at_T44 HR0_0.out x3_3 p106 q106; obtain rfl : ad103 = ad106 := (by injection e106); replace hx106_0 := (HB.out.cell (World.block_lt_of_cell? w _ hx106_0)).trans hx106_0; replace hx106_1 := (HB.out.cell (World.block_lt_of_cell? w _ hx106_1)).trans hx106_1; replace p106 := eq_true p106; replace q106 := eq_true q106)); try go_wp2_with (first | (go_at_call 33; (with_reducible refine (tensileref08_In.calls ((rd_T44 l0_0 x3_3).f0) 0 ((rd_T44 l0_0 x3_3).f1) true _ A18.out).mono ?_); rintro e w' ⟨rfl, ⟨nd, rfl⟩⟩; (try first | exact ⟨rfl, _, World.drewN_drewN _ _ _⟩ | exact ⟨rfl, _, Eq.trans (World.drewN_drewN _ _ _) (congrArg (World.drewN _) (Nat.add_assoc _ _ _))⟩); have p106 : 0 ≤ (x3_3 : Int) := of_decide_eq_true (by first | (with_reducible assumption) | assumption); have q106 : x3_3 < (l0_0.length : Int) := of_decide_eq_true (by first | (with_reducible assumption) | assumption); obtain ⟨ad106, e106, hx106_0, hx106_1⟩ := at_T44 HR0_0.out x3_3 p106 q106; obtain rfl : ad103 = ad106 := (by injection e106); replace hx106_0 := (HB.out.cell (World.block_lt_of_cell? w _ hx106_0)).trans hx106_0; replace hx106_1 := (HB.out.cell (World.block_lt_of_cell? w _ hx106_1)).trans hx106_1; replace p106 := eq_true p106; replace q106 := eq_true q106)))
             go_roundg k3
             case measure => have := HJ1.out; have := HJ9.out; have := HK3.out; omega
             case rel => exact ⟨(wrap64 (x3_3 + 1)), (by first | rfl | (simp; done) | (simp [*]; done)), H', ⟨by have := HJ1.out; have := HJ9.out; have := HK3.out; omega⟩, ⟨by (with_reducible repeat (first | refine blk_drewN ?_ _ | refine blk_drew ?_ | refine blk_alloc ?_ _)); exact BK101.out⟩, ⟨by repeat (first | (with_reducible first | exact HB.out | apply below_alloc | apply pw_below_drewN | apply below_drew1 | refine below_set ?_ GE101.out) | exact HB.out)⟩⟩
           ·replace c19 := Bool.eq_false_iff.mpr c19
            subst c19
            have H1 : (some 1) = some r := by rw [if_neg (show ¬ (false = true) by decide)] at H; exact H
            clear H
            have H := H1
            clear H1
            obtain rfl := Option.some.inj H
            have hcz23_0 : wr.cell? ⟨gb101, 0, none⟩ = some (.slice A0_0 l0_0.length c0_0) := (blk_cell BK101.out 0).trans rfl
            have hcz23_1 : wr.cell? ⟨gb101, 1, none⟩ = some (.slice A0_1 l0_1.length c0_1) := (blk_cell BK101.out 1).trans rfl
            have hcz23_2 : wr.cell? ⟨gb101, 2, none⟩ = some (.int .i64 a0_2) := (blk_cell BK101.out 2).trans rfl
            have hcz23_3 : wr.cell? ⟨gb101, 3, none⟩ = some (.slice A0_3 l0_3.length c0_3) := (blk_cell BK101.out 3).trans rfl
            have hfz23_0 := blk_frozen BK101.out 0
            have hfz23_1 := blk_frozen BK101.out 1
            have hfz23_2 := blk_frozen BK101.out 2
            have hfz23_3 := blk_frozen BK101.out 3
            have p103 : 0 ≤ (x3_3 : Int) := of_decide_eq_true (by first | (with_reducible assumption) | assumption)
            have q103 : x3_3 < (l0_0.length : Int) := of_decide_eq_true (by first | (with_reducible assumption) | assumption)
            obtain ⟨ad103, e103, hx103_0, hx103_1⟩ := at_T44 HR0_0.out x3_3 p103 q103
            cases e103
            replace hx103_0 := (HB.out.cell (World.block_lt_of_cell? w _ hx103_0)).trans hx103_0
            replace hx103_1 := (HB.out.cell (World.block_lt_of_cell? w _ hx103_1)).trans hx103_1
            replace p103 := eq_true p103
            replace q103 := eq_true q103
            have p104 : 0 ≤ (x3_3 : Int) := of_decide_eq_true (by first | (with_reducible assumption) | assumption)
            have q104 : x3_3 < (l0_0.length : Int) := of_decide_eq_true (by first | (with_reducible assumption) | assumption)
            obtain ⟨ad104, e104, hx104_0, hx104_1⟩ := at_T44 HR0_0.out x3_3 p104 q104
            obtain rfl : ad103 = ad104 := (by injection e104)
            replace hx104_0 := (HB.out.cell (World.block_lt_of_cell? w _ hx104_0)).trans hx104_0
            replace hx104_1 := (HB.out.cell (World.block_lt_of_cell? w _ hx104_1)).trans hx104_1
            replace p104 := eq_true p104
            replace q104 := eq_true q104
            go_wp2_with (first | (go_at_call 33; (with_reducible refine (tensileref08_In.calls ((rd_T44 l0_0 x3_3).f0) 0 ((rd_T44 l0_0 x3_3).f1) false _ A18.out).mono ?_); rintro e w' ⟨rfl, ⟨nd, rfl⟩⟩; (try first | exact ⟨rfl, _, World.drewN_drewN _ _ _⟩ | exact ⟨rfl, _, Eq.trans (World.drewN_drewN _ _ _) (congrArg (World.drewN _) (Nat.add_assoc _ _ _))⟩)))
            repeat (go_quiet (first | (go_at_call 33; (with_reducible refine (tensileref08_In.calls ((rd_T44 l0_0 x3_3).f0) 0 ((rd_T44 l0_0 x3_3).f1) false _ A18.out).mono ?_); rintro e w' ⟨rfl, ⟨nd, rfl⟩⟩; (try first | exact ⟨rfl, _, World.drewN_drewN _ _ _⟩ | exact ⟨rfl, _, Eq.trans (World.drewN_drewN _ _ _) (congrArg (World.drewN _) (Nat.add_assoc _ _ _))⟩))); try go_wp2_with (first | (go_at_call 33; (with_reducible refine (tensileref08_In.calls ((rd_T44 l0_0 x3_3).f0) 0 ((rd_T44 l0_0 x3_3).f1) false _ A18.out).mono ?_); rintro e w' ⟨rfl, ⟨nd, rfl⟩⟩; (try first | exact ⟨rfl, _, World.drewN_drewN _ _ _⟩ | exact ⟨rfl, _, Eq.trans (World.drewN_drewN _ _ _) (congrArg (World.drewN _) (Nat.add_assoc _ _ _))⟩))))
            go_ret
            exact ⟨by first | rfl | (simp [errW_none, errW_some] <;> rfl) | (simp [*, errW_none, errW_some] <;> rfl), by repeat (first | (with_reducible first | exact HB.out | apply below_alloc | apply pw_below_drewN | apply below_drew1 | refine below_set ?_ GE101.out) | exact HB.out)⟩
          ·rw [if_neg c17] at H
           exact absurd H (by simp)
         ·rw [if_neg c16] at H
          have c16b0 : decide (x3_3 < (l0_0.length : Int)) = false := decide_eq_false c16
          clear c16
          have H' := Aside0.mk H
          clear H
          have hcz24_0 : wr.cell? ⟨gb101, 0, none⟩ = some (.slice A0_0 l0_0.length c0_0) := (blk_cell BK101.out 0).trans rfl
          have hcz24_1 : wr.cell? ⟨gb101, 1, none⟩ = some (.slice A0_1 l0_1.length c0_1) := (blk_cell BK101.out 1).trans rfl
          have hcz24_2 : wr.cell? ⟨gb101, 2, none⟩ = some (.int .i64 a0_2) := (blk_cell BK101.out 2).trans rfl
          have hcz24_3 : wr.cell? ⟨gb101, 3, none⟩ = some (.slice A0_3 l0_3.length c0_3) := (blk_cell BK101.out 3).trans rfl
          have hfz24_0 := blk_frozen BK101.out 0
          have hfz24_1 := blk_frozen BK101.out 1
          have hfz24_2 := blk_frozen BK101.out 2
          have hfz24_3 := blk_frozen BK101.out 3
          go_wp2
          repeat (go_quiet (fail); try go_wp2)
          go_loopg [4] k3 (fun kq v4 w' => ∃ (x4_4 : Int), v4 = .int .i64 x4_4 ∧ Aside0 (tensileref08_Fault.l1 kq x4_4 l0_0 l0_1 a0_2 l0_3 = some r) ∧ Aside0 (kq ≤ k3) ∧ Aside0 (w'.heap[gb101]? = some (.cells #[(.slice A0_0 l0_0.length c0_0), (.slice A0_1 l0_1.length c0_1), .int .i64 a0_2, (.slice A0_3 l0_3.length c0_3)] 26 (0, 0))) ∧ Aside0 (Below w.heap.size w w'))
          case atStart => exact ⟨(0), (by first | rfl | (simp; done) | (simp [*]; done)), H', ⟨Nat.le_refl _⟩, ⟨by (with_reducible repeat (first | refine blk_drewN ?_ _ | refine blk_drew ?_ | refine blk_alloc ?_ _)); exact BK101.out⟩, ⟨by repeat (first | (with_reducible first | exact HB.out | apply below_alloc | apply pw_below_drewN | apply below_drew1 | refine below_set ?_ GE101.out) | exact HB.out)⟩⟩
          case round =>
           clear H'
           try clear c1
           try clear p1
           try clear q1
           try clear hx1
           try clear c2
           try clear p2
           try clear c4
           try clear c4b0
           try clear c4b1
           try clear c6
           try clear c6b0
           try clear c6b1
           try clear p6
           try clear c9
           try clear p10
           try clear q10
           try clear hx10
           try clear c11
           try clear c11b0
           try clear c11b1
           try clear c11b2
           try clear c15
           try clear c16
           try clear c16b0
           try clear c17
           try clear c17b0
           try clear c19
           try clear c20
           try clear c20b0
           try clear hcz12_0
           try clear hcz12_1
           try clear hcz12_2
           try clear hcz12_3
           try clear hcz14_0
           try clear hcz14_1
           try clear hcz14_2
           try clear hcz14_3
           try clear hcz21_0
           try clear hcz21_1
           try clear hcz21_2
           try clear hcz21_3
           try clear hcz22_0
           try clear hcz22_1
           try clear hcz22_2
           try clear hcz22_3
           try clear hcz23_0
           try clear hcz23_1
           try clear hcz23_2
           try clear hcz23_3
           try clear hcz24_0
           try clear hcz24_1
           try clear hcz24_2
           try clear hcz24_3
           try clear hcz5_0
           try clear hcz5_1
           try clear hcz5_2
           try clear hcz5_3
           try clear hcz7_0
           try clear hcz7_1
           try clear hcz7_2
           try clear hcz7_3
           try clear hcz8_0
           try clear hcz8_1
           try clear hcz8_2
           try clear hcz8_3
           try clear hfz12_0
           try clear hfz12_1
           try clear hfz12_2
           try clear hfz12_3
           try clear hfz14_0
           try clear hfz14_1
           try clear hfz14_2
           try clear hfz14_3
           try clear hfz21_0
           try clear hfz21_1
           try clear hfz21_2
           try clear hfz21_3
           try clear hfz22_0
           try clear hfz22_1
           try clear hfz22_2
           try clear hfz22_3
           try clear hfz23_0
           try clear hfz23_1
           try clear hfz23_2
           try clear hfz23_3
           try clear hfz24_0
           try clear hfz24_1
           try clear hfz24_2
           try clear hfz24_3
           try clear hfz5_0
           try clear hfz5_1
           try clear hfz5_2
           try clear hfz5_3
           try clear hfz7_0
           try clear hfz7_1
           try clear hfz7_2
           try clear hfz7_3
           try clear hfz8_0
           try clear hfz8_1
           try clear hfz8_2
           try clear hfz8_3
           try clear hx103_0
           try clear hx103_1
           try clear hx104_0
           try clear hx104_1
           try clear hx106_0
           try clear hx106_1
           try clear p103
           try clear p104
           try clear p106
           try clear p2
           try clear q103
           try clear q104
           try clear q106
           obtain ⟨x4_4, rfl, HA, HK4, BK101, HB⟩ := hrel
           cases gk with
           | zero => exact absurd HA.out (by simp [tensileref08_Fault.l1])
           | succ k4 =>
            have H := HA.out
            clear HA
            simp only [tensileref08_Fault.l1] at H
            by_cases c25 : x4_4 < (l0_1.length : Int)
            ·rw [if_pos c25] at H
             have c25b0 : decide (x4_4 < (l0_1.length : Int)) = true := decide_eq_true c25
             clear c25
             by_cases c26 : 0 ≤ x4_4
             ·rw [if_pos c26] at H
              have c26b0 : decide (0 ≤ x4_4) = true := decide_eq_true c26
              clear c26
              replace H := Option.bind_eq_some_iff.mp H
              obtain ⟨t108, A270, H⟩ := H
              replace H : (if t108 = true then (tensileref08_Fault.l1 k4 (wrap64 (x4_4 + 1)) l0_0 l0_1 a0_2 l0_3) else (some 1)) = some r := H
              have A27 := Aside0.mk A270
              clear A270
              by_cases c28 : t108 = true
              ·subst c28
               have H1 : (tensileref08_Fault.l1 k4 (wrap64 (x4_4 + 1)) l0_0 l0_1 a0_2 l0_3) = some r := by rw [if_pos rfl] at H; exact H
               clear H
               have H := H1
               clear H1
               have H' := Aside0.mk H
               clear H
               have hcz29_0 : wr.cell? ⟨gb101, 0, none⟩ = some (.slice A0_0 l0_0.length c0_0) := (blk_cell BK101.out 0).trans rfl
               have hcz29_1 : wr.cell? ⟨gb101, 1, none⟩ = some (.slice A0_1 l0_1.length c0_1) := (blk_cell BK101.out 1).trans rfl
               have hcz29_2 : wr.cell? ⟨gb101, 2, none⟩ = some (.int .i64 a0_2) := (blk_cell BK101.out 2).trans rfl
               have hcz29_3 : wr.cell? ⟨gb101, 3, none⟩ = some (.slice A0_3 l0_3.length c0_3) := (blk_cell BK101.out 3).trans rfl
               have hfz29_0 := blk_frozen BK101.out 0
               have hfz29_1 := blk_frozen BK101.out 1
               have hfz29_2 := blk_frozen BK101.out 2
               have hfz29_3 := blk_frozen BK101.out 3
               have p107 : 0 ≤ (x4_4 : Int) := of_decide_eq_true (by first | (with_reducible assumption) | assumption)
               have q107 : x4_4 < (l0_1.length : Int) := of_decide_eq_true (by first | (with_reducible assumption) | assumption)
               obtain ⟨ad107, e107, hx107_0⟩ := Kd.at_int HR0_1.out x4_4 p107 q107
               cases e107
               replace hx107_0 := (HB.out.cell (World.block_lt_of_cell? w _ hx107_0)).trans hx107_0
               replace p107 := eq_true p107
               replace q107 := eq_true q107
               go_wp2_with (first | (go_at_call 33; (with_reducible refine (tensileref08_In.calls (rd l0_1 x4_4) 0 (wrap64 ((l0_0.length : Int) - 1)) true _ A27.out).mono ?_); rintro e w' ⟨rfl, ⟨nd, rfl⟩⟩; (try first | exact ⟨rfl, _, World.drewN_drewN _ _ _⟩ | exact ⟨rfl, _, Eq.trans (World.drewN_drewN _ _ _) (congrArg (World.drewN _) (Nat.add_assoc _ _ _))⟩)))
               repeat (go_quiet (first | (go_at_call 33; (with_reducible refine (tensileref08_In.calls (rd l0_1 x4_4) 0 (wrap64 ((l0_0.length : Int) - 1)) true _ A27.out).mono ?_); rintro e w' ⟨rfl, ⟨nd, rfl⟩⟩; (try first | exact ⟨rfl, _, World.drewN_drewN _ _ _⟩ | exact ⟨rfl, _, Eq.trans (World.drewN_drewN _ _ _) (congrArg (World.drewN _) (Nat.add_assoc _ _ _))⟩))); try go_wp2_with (first | (go_at_call 33; (with_reducible refine (tensileref08_In.calls (rd l0_1 x4_4) 0 (wrap64 ((l0_0.length : Int) - 1)) true _ A27.out).mono ?_); rintro e w' ⟨rfl, ⟨nd, rfl⟩⟩; (try first | exact ⟨rfl, _, World.drewN_drewN _ _ _⟩ | exact ⟨rfl, _, Eq.trans (World.drewN_drewN _ _ _) (congrArg (World.drewN _) (Nat.add_assoc _ _ _))⟩))))
               go_roundg k4
               case measure => have := HJ1.out; have := HJ9.out; have := HK3.out; have := HK4.out; omega
               case rel => exact ⟨(wrap64 (x4_4 + 1)), (by first | rfl | (simp; done) | (simp [*]; done)), H', ⟨by have := HJ1.out; have := HJ9.out; have := HK3.out; have := HK4.out; omega⟩, ⟨by (with_reducible repeat (first | refine blk_drewN ?_ _ | refine blk_drew ?_ | refine blk_alloc ?_ _)); exact BK101.out⟩, ⟨by repeat (first | (with_reducible first | exact HB.out | apply below_alloc | apply pw_below_drewN | apply below_drew1 | refine below_set ?_ GE101.out) | exact HB.out)⟩⟩
              ·replace c28 := Bool.eq_false_iff.mpr c28
               subst c28
               have H1 : (some 1) = some r := by rw [if_neg (show ¬ (false = true) by decide)] at H; exact H
               clear H
               have H := H1
               clear H1
               obtain rfl := Option.some.inj H
               have hcz30_0 : wr.cell? ⟨gb101, 0, none⟩ = some (.slice A0_0 l0_0.length c0_0) := (blk_cell BK101.out 0).trans rfl
               have hcz30_1 : wr.cell? ⟨gb101, 1, none⟩ = some (.slice A0_1 l0_1.length c0_1) := (blk_cell BK101.out 1).trans rfl
               have hcz30_2 : wr.cell? ⟨gb101, 2, none⟩ = some (.int .i64 a0_2) := (blk_cell BK101.out 2).trans rfl
               have hcz30_3 : wr.cell? ⟨gb101, 3, none⟩ = some (.slice A0_3 l0_3.length c0_3) := (blk_cell BK101.out 3).trans rfl
               have hfz30_0 := blk_frozen BK101.out 0
               have hfz30_1 := blk_frozen BK101.out 1
               have hfz30_2 := blk_frozen BK101.out 2
               have hfz30_3 := blk_frozen BK101.out 3
               have p107 : 0 ≤ (x4_4 : Int) := of_decide_eq_true (by first | (with_reducible assumption) | assumption)
               have q107 : x4_4 < (l0_1.length : Int) := of_decide_eq_true (by first | (with_reducible assumption) | assumption)
               obtain ⟨ad107, e107, hx107_0⟩ := Kd.at_int HR0_1.out x4_4 p107 q107
               cases e107
               replace hx107_0 := (HB.out.cell (World.block_lt_of_cell? w _ hx107_0)).trans hx107_0
               replace p107 := eq_true p107
               replace q107 := eq_true q107
               go_wp2_with (first | (go_at_call 33; (with_reducible refine (tensileref08_In.calls (rd l0_1 x4_4) 0 (wrap64 ((l0_0.length : Int) - 1)) false _ A27.out).mono ?_); rintro e w' ⟨rfl, ⟨nd, rfl⟩⟩; (try first | exact ⟨rfl, _, World.drewN_drewN _ _ _⟩ | exact ⟨rfl, _, Eq.trans (World.drewN_drewN _ _ _) (congrArg (World.drewN _) (Nat.add_assoc _ _ _))⟩)))
               repeat (go_quiet (first | (go_at_call 33; (with_reducible refine (tensileref08_In.calls (rd l0_1 x4_4) 0 (wrap64 ((l0_0.length : Int) - 1)) false _ A27.out).mono ?_); rintro e w' ⟨rfl, ⟨nd, rfl⟩⟩; (try first | exact ⟨rfl, _, World.drewN_drewN _ _ _⟩ | exact ⟨rfl, _, Eq.trans (World.drewN_drewN _ _ _) (congrArg (World.drewN _) (Nat.add_assoc _ _ _))⟩))); try go_wp2_with (first | (go_at_call 33; (with_reducible refine (tensileref08_In.calls (rd l0_1 x4_4) 0 (wrap64 ((l0_0.length : Int) - 1)) false _ A27.out).mono ?_); rintro e w' ⟨rfl, ⟨nd, rfl⟩⟩; (try first | exact ⟨rfl, _, World.drewN_drewN _ _ _⟩ | exact ⟨rfl, _, Eq.trans (World.drewN_drewN _ _ _) (congrArg (World.drewN _) (Nat.add_assoc _ _ _))⟩))))
               go_ret
               exact ⟨by first | rfl | (simp [errW_none, errW_some] <;> rfl) | (simp [*, errW_none, errW_some] <;> rfl), by repeat (first | (with_reducible first | exact HB.out | apply below_alloc | apply pw_below_drewN | apply below_drew1 | refine below_set ?_ GE101.out) | exact HB.out)⟩
             ·rw [if_neg c26] at H
              exact absurd H (by simp)
            ·rw [if_neg c25] at H
             have c25b0 : decide (x4_4 < (l0_1.length : Int)) = false := decide_eq_false c25
             clear c25
             have H' := Aside0.mk H
             clear H
             have hcz31_0 : wr.cell? ⟨gb101, 0, none⟩ = some (.slice A0_0 l0_0.length c0_0) := (blk_cell BK101.out 0).trans rfl
             have hcz31_1 : wr.cell? ⟨gb101, 1, none⟩ = some (.slice A0_1 l0_1.length c0_1) := (blk_cell BK101.out 1).trans rfl
             have hcz31_2 : wr.cell? ⟨gb101, 2, none⟩ = some (.int .i64 a0_2) := (blk_cell BK101.out 2).trans rfl
             have hcz31_3 : wr.cell? ⟨gb101, 3, none⟩ = some (.slice A0_3 l0_3.length c0_3) := (blk_cell BK101.out 3).trans rfl
             have hfz31_0 := blk_frozen BK101.out 0
             have hfz31_1 := blk_frozen BK101.out 1
             have hfz31_2 := blk_frozen BK101.out 2
             have hfz31_3 := blk_frozen BK101.out 3
             go_wp2
             repeat (go_quiet (fail); try go_wp2)
             go_loopg [5] k4 (fun kq v5 w' => ∃ (x5_5 : Int), v5 = .int .i64 x5_5 ∧ Aside0 (tensileref08_Fault.l2 kq x5_5 l0_0 l0_1 a0_2 l0_3 = some r) ∧ Aside0 (kq ≤ k4) ∧ Aside0 (w'.heap[gb101]? = some (.cells #[(.slice A0_0 l0_0.length c0_0), (.slice A0_1 l0_1.length c0_1), .int .i64 a0_2, (.slice A0_3 l0_3.length c0_3)] 26 (0, 0))) ∧ Aside0 (Below w.heap.size w w'))
             case atStart => exact ⟨(0), (by first | rfl | (simp; done) | (simp [*]; done)), H', ⟨Nat.le_refl _⟩, ⟨by (with_reducible repeat (first | refine blk_drewN ?_ _ | refine blk_drew ?_ | refine blk_alloc ?_ _)); exact BK101.out⟩, ⟨by repeat (first | (with_reducible first | exact HB.out | apply below_alloc | apply pw_below_drewN | apply below_drew1 | refine below_set ?_ GE101.out) | exact HB.out)⟩⟩
             case round =>
              clear H'
              try clear c1
              try clear p1
              try clear q1
              try clear hx1
              try clear c2
              try clear p2
              try clear c4
              try clear c4b0
              try clear c4b1
              try clear c6
              try clear c6b0
              try clear c6b1
              try clear p6
              try clear c9
              try clear p10
              try clear q10
              try clear hx10
              try clear c11
              try clear c11b0
              try clear c11b1
              try clear c11b2
              try clear c15
              try clear c16
              try clear c16b0
              try clear c17
              try clear c17b0
              try clear c19
              try clear c20
              try clear c20b0
              try clear c25
              try clear c25b0
              try clear c26
              try clear c26b0
              try clear c28
              try clear hcz12_0
              try clear hcz12_1
              try clear hcz12_2
              try clear hcz12_3
              try clear hcz14_0
              try clear hcz14_1
              try clear hcz14_2
              try clear hcz14_3
              try clear hcz21_0
              try clear hcz21_1
              try clear hcz21_2
              try clear hcz21_3
              try clear hcz22_0
              try clear hcz22_1
              try clear hcz22_2
              try clear hcz22_3
              try clear hcz23_0
              try clear hcz23_1
              try clear hcz23_2
              try clear hcz23_3
              try clear hcz24_0
              try clear hcz24_1
              try clear hcz24_2
              try clear hcz24_3
              try clear hcz29_0
              try clear hcz29_1
              try clear hcz29_2
              try clear hcz29_3
              try clear hcz30_0
              try clear hcz30_1
              try clear hcz30_2
              try clear hcz30_3
              try clear hcz31_0
              try clear hcz31_1
              try clear hcz31_2
              try clear hcz31_3
              try clear hcz5_0
              try clear hcz5_1
              try clear hcz5_2
              try clear hcz5_3
              try clear hcz7_0
              try clear hcz7_1
              try clear hcz7_2
              try clear hcz7_3
              try clear hcz8_0
              try clear hcz8_1
              try clear hcz8_2
              try clear hcz8_3
              try clear hfz12_0
              try clear hfz12_1
              try clear hfz12_2
              try clear hfz12_3
              try clear hfz14_0
              try clear hfz14_1
              try clear hfz14_2
              try clear hfz14_3
              try clear hfz21_0
              try clear hfz21_1
              try clear hfz21_2
              try clear hfz21_3
              try clear hfz22_0
              try clear hfz22_1
              try clear hfz22_2
              try clear hfz22_3
              try clear hfz23_0
              try clear hfz23_1
              try clear hfz23_2
              try clear hfz23_3
              try clear hfz24_0
              try clear hfz24_1
              try clear hfz24_2
              try clear hfz24_3
              try clear hfz29_0
              try clear hfz29_1
              try clear hfz29_2
              try clear hfz29_3
              try clear hfz30_0
              try clear hfz30_1
              try clear hfz30_2
              try clear hfz30_3
              try clear hfz31_0
              try clear hfz31_1
              try clear hfz31_2
              try clear hfz31_3
              try clear hfz5_0
              try clear hfz5_1
              try clear hfz5_2
              try clear hfz5_3
              try clear hfz7_0
              try clear hfz7_1
              try clear hfz7_2
              try clear hfz7_3
              try clear hfz8_0
              try clear hfz8_1
              try clear hfz8_2
              try clear hfz8_3
              try clear hx103_0
              try clear hx103_1
              try clear hx104_0
              try clear hx104_1
              try clear hx106_0
              try clear hx106_1
              try clear hx107_0
              try clear p1
              try clear p10
              try clear p103
              try clear p104
              try clear p106
              try clear p107
              try clear p2
              try clear p6
              try clear q1
              try clear q10
              try clear q103
              try clear q104
              try clear q106
              try clear q107
              obtain ⟨x5_5, rfl, HA, HK5, BK101, HB⟩ := hrel
              cases gk with
              | zero => exact absurd HA.out (by simp [tensileref08_Fault.l2])
              | succ k5 =>
               have H := HA.out
               clear HA
               simp only [tensileref08_Fault.l2] at H
               by_cases c32 : x5_5 < (l0_3.length : Int)
               ·rw [if_pos c32] at H
                have c32b0 : decide (x5_5 < (l0_3.length : Int)) = true := decide_eq_true c32
                clear c32
                by_cases c33 : 0 ≤ x5_5
                ·rw [if_pos c33] at H
                 have c33b0 : decide (0 ≤ x5_5) = true := decide_eq_true c33
                 clear c33
                 have HC34 := Aside0.mk H
                 clear H
                 have hcz35_0 : wr.cell? ⟨gb101, 0, none⟩ = some (.slice A0_0 l0_0.length c0_0) := (blk_cell BK101.out 0).trans rfl
                 have hcz35_1 : wr.cell? ⟨gb101, 1, none⟩ = some (.slice A0_1 l0_1.length c0_1) := (blk_cell BK101.out 1).trans rfl
                 have hcz35_2 : wr.cell? ⟨gb101, 2, none⟩ = some (.int .i64 a0_2) := (blk_cell BK101.out 2).trans rfl
                 have hcz35_3 : wr.cell? ⟨gb101, 3, none⟩ = some (.slice A0_3 l0_3.length c0_3) := (blk_cell BK101.out 3).trans rfl
                 have hfz35_0 := blk_frozen BK101.out 0
                 have hfz35_1 := blk_frozen BK101.out 1
                 have hfz35_2 := blk_frozen BK101.out 2
                 have hfz35_3 := blk_frozen BK101.out 3
                 have p109 : 0 ≤ (x5_5 : Int) := of_decide_eq_true (by first | (with_reducible assumption) | assumption)
                 have q109 : x5_5 < (l0_3.length : Int) := of_decide_eq_true (by first | (with_reducible assumption) | assumption)
                 obtain ⟨ad109, A109_1, c109_1, e109, hx109_0, hx109_1, hl109_1, hi109_1⟩ := at_T62 HR0_3.out x5_5 p109 q109
                 cases e109
                 replace hx109_0 := (HB.out.cell (World.block_lt_of_cell? w _ hx109_0)).trans hx109_0
                 replace hx109_1 := (HB.out.cell (World.block_lt_of_cell? w _ hx109_1)).trans hx109_1
                 have HR109_1 := Aside0.mk hi109_1
                 have HC109_1 := Aside0.mk hl109_1
                 clear hi109_1 hl109_1
                 replace p109 := eq_true p109
                 replace q109 := eq_true q109
                 go_upto_region 19 with (first | ((with_reducible refine gate_dst (N := 6) rfl ?_); (try (refine gate_guard (by rfl) ?_; dsimp only)); refine box_event ?hg (N := 6) ?hd (cs := #[.int .i64 0, .slice none 0 0]) (t := 62) ?hr ?_; (case hd => rfl); (case hg => rfl); (case hr => first | (go_simp; done) | (go_simp; rfl)); intro gb110 hg w36 hbox hb; have n0_ := Aside0.mk (blk_below (g := gb101) (o := .cells #[.slice A0_0 l0_0.length c0_0, .slice A0_1 l0_1.length c0_1, .int .i64 a0_2, .slice (some ad109) l0_3.length c0_3] 26 (0, 0)) (by (with_reducible repeat (first | refine blk_drewN ?_ _ | refine blk_drew ?_ | refine blk_alloc ?_ _)); exact BK101.out) hb); have n1_ := Aside0.mk (below_step (by repeat (first | (with_reducible first | exact HB.out | apply below_alloc | apply pw_below_drewN | apply below_drew1 | refine below_set ?_ GE101.out) | exact HB.out)) hb); have n2_ := Aside0.mk (hbox); have n3_ := Aside0.mk ((by rw [hg]; exact (below_size (by repeat (first | (with_reducible first | exact HB.out | apply below_alloc | apply pw_below_drewN | apply below_drew1 | refine below_set ?_ GE101.out) | exact HB.out))) : w.heap.size ≤ gb110)); have n4_ := Aside0.mk ((by rw [hg]; exact (below_size (by repeat (first | (with_reducible first | exact HB.out | apply below_alloc | apply pw_below_drewN | apply below_drew1 | refine below_set ?_ GE101.out) | exact HB.out))) : w.heap.size ≤ gb110)); have n5_ := Aside0.mk ((by rw [hg]; exact Nat.ne_of_lt (blk_lt (g := gb101) (o := .cells #[.slice A0_0 l0_0.length c0_0, .slice A0_1 l0_1.length c0_1, .int .i64 a0_2, .slice (some ad109) l0_3.length c0_3] 26 (0, 0)) (by (with_reducible repeat (first | refine blk_drewN ?_ _ | refine blk_drew ?_ | refine blk_alloc ?_ _)); exact BK101.out)) : gb101 ≠ gb110)); have n6_ := Aside0.mk ((by rw [hg]; exact Nat.ne_of_gt (blk_lt (g := gb101) (o := .cells #[.slice A0_0 l0_0.length c0_0, .slice A0_1 l0_1.length c0_1, .int .i64 a0_2, .slice (some ad109) l0_3.length c0_3] 26 (0, 0)) (by (with_reducible repeat (first | refine blk_drewN ?_ _ | refine blk_drew ?_ | refine blk_alloc ?_ _)); exact BK101.out)) : gb110 ≠ gb101)); clear BK101; clear HB; have BK101 := n0_; have HB := n1_; have BK110 := n2_; have GW110 := n3_; have GE110 := n4_; have NB101_110 := n5_; have NB110_101 := n6_; clear n0_ n1_ n2_ n3_ n4_ n5_ n6_; clear hb hbox hg; have hnb37 := NB110_101.out; have hnc37 := NB101_110.out; have hcz38_0 : w36.cell? ⟨gb110, 0, none⟩ = some (.int .i64 0) := (blk_cell BK110.out 0).trans rfl; have hcz38_1 : w36.cell? ⟨gb110, 1, none⟩ = some (.slice none 0 0) := (blk_cell BK110.out 1).trans rfl; have hfz38_0 := blk_frozen BK110.out 0; have hfz38_1 := blk_frozen BK110.out 1))
                 repeat (go_quiet (first | ((with_reducible refine gate_dst (N := 6) rfl ?_); (try (refine gate_guard (by rfl) ?_; dsimp only)); refine box_event ?hg (N := 6) ?hd (cs := #[.int .i64 0, .slice none 0 0]) (t := 62) ?hr ?_; (case hd => rfl); (case hg => rfl); (case hr => first | (go_simp; done) | (go_simp; rfl)); intro gb110 hg w36 hbox hb; have n0_ := Aside0.mk (blk_below (g := gb101) (o := .cells #[.slice A0_0 l0_0.length c0_0, .slice A0_1 l0_1.length c0_1, .int .i64 a0_2, .slice (some ad109) l0_3.length c0_3] 26 (0, 0)) (by (with_reducible repeat (first | refine blk_drewN ?_ _ | refine blk_drew ?_ | refine blk_alloc ?_ _)); exact BK101.out) hb); have n1_ := Aside0.mk (below_step (by repeat (first | (with_reducible first | exact HB.out | apply below_alloc | apply pw_below_drewN | apply below_drew1 | refine below_set ?_ GE101.out) | exact HB.out)) hb); have n2_ := Aside0.mk (hbox); have n3_ := Aside0.mk ((by rw [hg]; exact (below_size (by repeat (first | (with_reducible first | exact HB.out | apply below_alloc | apply pw_below_drewN | apply below_drew1 | refine below_set ?_ GE101.out) | exact HB.out))) : w.heap.size ≤ gb110)); have n4_ := Aside0.mk ((by rw [hg]; exact (below_size (by repeat (first | (with_reducible first | exact HB.out | apply below_alloc | apply pw_below_drewN | apply below_drew1 | refine below_set ?_ GE101.out) | exact HB.out))) : w.heap.size ≤ gb110)); have n5_ := Aside0.mk ((by rw [hg]; exact Nat.ne_of_lt (blk_lt (g := gb101) (o := .cells #[.slice A0_0 l0_0.length c0_0, .slice A0_1 l0_1.length c0_1, .int .i64 a0_2, .slice (some ad109) l0_3.length c0_3] 26 (0, 0)) (by (with_reducible repeat (first | refine blk_drewN ?_ _ | refine blk_drew ?_ | refine blk_alloc ?_ _)); exact BK101.out)) : gb101 ≠ gb110)); have n6_ := Aside0.mk ((by rw [hg]; exact Nat.ne_of_gt (blk_lt (g := gb101) (o := .cells #[.slice A0_0 l0_0.length c0_0, .slice A0_1 l0_1.length c0_1, .int .i64 a0_2, .slice (some ad109) l0_3.length c0_3] 26 (0, 0)) (by (with_reducible repeat (first | refine blk_drewN ?_ _ | refine blk_drew ?_ | refine blk_alloc ?_ _)); exact BK101.out)) : gb110 ≠ gb101)); clear BK101; clear HB; have BK101 := n0_; have HB := n1_; have BK110 := n2_; have GW110 := n3_; have GE110 := n4_; have NB101_110 := n5_; have NB110_101 := n6_; clear n0_ n1_ n2_ n3_ n4_ n5_ n6_; clear hb hbox hg; have hnb37 := NB110_101.out; have hnc37 := NB101_110.out; have hcz38_0 : w36.cell? ⟨gb110, 0, none⟩ = some (.int .i64 0) := (blk_cell BK110.out 0).trans rfl; have hcz38_1 : w36.cell? ⟨gb110, 1, none⟩ = some (.slice none 0 0) := (blk_cell BK110.out 1).trans rfl; have hfz38_0 := blk_frozen BK110.out 0; have hfz38_1 := blk_frozen BK110.out 1)); go_upto_region 19 with (first | ((with_reducible refine gate_dst (N := 6) rfl ?_); (try (refine gate_guard (by rfl) ?_; dsimp only)); refine box_event ?hg (N := 6) ?hd (cs := #[.int .i64 0, .slice none 0 0]) (t := 62) ?hr ?_; (case hd => rfl); (case hg => rfl); (case hr => first | (go_simp; done) | (go_simp; rfl)); intro gb110 hg w36 hbox hb; have n0_ := Aside0.mk (blk_below (g := gb101) (o := .cells #[.slice A0_0 l0_0.length c0_0, .slice A0_1 l0_1.length c0_1, .int .i64 a0_2, .slice (some ad109) l0_3.length c0_3] 26 (0, 0)) (by (with_reducible repeat (first | refine blk_drewN ?_ _ | refine blk_drew ?_ | refine blk_alloc ?_ _)); exact BK101.out) hb); have n1_ := Aside0.mk (below_step (by repeat (first | (with_reducible first | exact HB.out | apply below_alloc | apply pw_below_drewN | apply below_drew1 | refine below_set ?_ GE101.out) | exact HB.out)) hb); have n2_ := Aside0.mk (hbox); have n3_ := Aside0.mk ((by rw [hg]; exact (below_size (by repeat (first | (with_reducible first | exact HB.out | apply below_alloc | apply pw_below_drewN | apply below_drew1 | refine below_set ?_ GE101.out) | exact HB.out))) : w.heap.size ≤ gb110)); have n4_ := Aside0.mk ((by rw [hg]; exact (below_size (by repeat (first | (with_reducible first | exact HB.out | apply below_alloc | apply pw_below_drewN | apply below_drew1 | refine below_set ?_ GE101.out) | exact HB.out))) : w.heap.size ≤ gb110)); have n5_ := Aside0.mk ((by rw [hg]; exact Nat.ne_of_lt (blk_lt (g := gb101) (o := .cells #[.slice A0_0 l0_0.length c0_0, .slice A0_1 l0_1.length c0_1, .int .i64 a0_2, .slice (some ad109) l0_3.length c0_3] 26 (0, 0)) (by (with_reducible repeat (first | refine blk_drewN ?_ _ | refine blk_drew ?_ | refine blk_alloc ?_ _)); exact BK101.out)) : gb101 ≠ gb110)); have n6_ := Aside0.mk ((by rw [hg]; exact Nat.ne_of_gt (blk_lt (g := gb101) (o := .cells #[.slice A0_0 l0_0.length c0_0, .slice A0_1 l0_1.length c0_1, .int .i64 a0_2, .slice (some ad109) l0_3.length c0_3] 26 (0, 0)) (by (with_reducible repeat (first | refine blk_drewN ?_ _ | refine blk_drew ?_ | refine blk_alloc ?_ _)); exact BK101.out)) : gb110 ≠ gb101)); clear BK101; clear HB; have BK101 := n0_; have HB := n1_; have BK110 := n2_; have GW110 := n3_; have GE110 := n4_; have NB101_110 := n5_; have NB110_101 := n6_; clear n0_ n1_ n2_ n3_ n4_ n5_ n6_; clear hb hbox hg; have hnb37 := NB110_101.out; have hnc37 := NB101_110.out; have hcz38_0 : w36.cell? ⟨gb110, 0, none⟩ = some (.int .i64 0) := (blk_cell BK110.out 0).trans rfl; have hcz38_1 : w36.cell? ⟨gb110, 1, none⟩ = some (.slice none 0 0) := (blk_cell BK110.out 1).trans rfl; have hfz38_0 := blk_frozen BK110.out 0; have hfz38_1 := blk_frozen BK110.out 1)))
                 (try simp only [Act.put, List.setIfInBounds_toArray, List.set_cons_zero, List.set_cons_succ])
                 go_cut [106] (fun v106 wc => ∃ (kq : Nat) (x106_33 : Bool), v106 = .bool x106_33 ∧ Aside0 (tensileref08_Fault.j5 kq x5_5 x106_33 l0_0 l0_1 a0_2 l0_3 ((rd_T62 l0_3 x5_5).f0) ((rd_T62 l0_3 x5_5).f1) = some r) ∧ Aside0 (kq ≤ k5) ∧ Aside0 (wc.heap[gb101]? = some (.cells #[(.slice A0_0 l0_0.length c0_0), (.slice A0_1 l0_1.length c0_1), .int .i64 a0_2, (.slice (some ad109) l0_3.length c0_3)] 26 (0, 0))) ∧ Aside0 (wc.heap[gb110]? = some (.cells #[.int .i64 ((rd_T62 l0_3 x5_5).f0), (.slice A109_1 ((rd_T62 l0_3 x5_5).f1).length c109_1)] 62 (0, 0))) ∧ Aside0 (Below w.heap.size w wc))
                 case first =>
                  have H := HC34.out
                  clear HC34
                  replace H := Option.bind_eq_some_iff.mp H
                  obtain ⟨t111, A390, H⟩ := H
                  replace H : (if t111 = true then (tensileref08_Fault.j5 k5 x5_5 ((((rd_T62 l0_3 x5_5).f1).length : Int) != (l0_1.length : Int)) l0_0 l0_1 a0_2 l0_3 ((rd_T62 l0_3 x5_5).f0) ((rd_T62 l0_3 x5_5).f1)) else (tensileref08_Fault.j5 k5 x5_5 true l0_0 l0_1 a0_2 l0_3 ((rd_T62 l0_3 x5_5).f0) ((rd_T62 l0_3 x5_5).f1))) = some r := H
                  have A39 := Aside0.mk A390
                  clear A390
                  by_cases c40 : t111 = true
                  ·subst c40
                   have H1 : (tensileref08_Fault.j5 k5 x5_5 ((((rd_T62 l0_3 x5_5).f1).length : Int) != (l0_1.length : Int)) l0_0 l0_1 a0_2 l0_3 ((rd_T62 l0_3 x5_5).f0) ((rd_T62 l0_3 x5_5).f1)) = some r := by rw [if_pos rfl] at H; exact H
                   clear H
                   have H := H1
                   clear H1
                   have H' := Aside0.mk H
                   clear H
                   have hnb41 := NB110_101.out
                   have hnc41 := NB101_110.out
                   have hcz42_0 : w36.cell? ⟨gb110, 0, none⟩ = some (.int .i64 0) := (blk_cell BK110.out 0).trans rfl
                   have hcz42_1 : w36.cell? ⟨gb110, 1, none⟩ = some (.slice none 0 0) := (blk_cell BK110.out 1).trans rfl
                   have hfz42_0 := blk_frozen BK110.out 0
                   have hfz42_1 := blk_frozen BK110.out 1
                   go_wp2_with (first | (go_at_call 33; (with_reducible refine (tensileref08_In.calls ((rd_T62 l0_3 x5_5).f0) 0 100 true _ A39.out).mono ?_); rintro e w' ⟨rfl, ⟨nd, rfl⟩⟩; (try first | exact ⟨rfl, _, World.drewN_drewN _ _ _⟩ | exact ⟨rfl, _, Eq.trans (World.drewN_drewN _ _ _) (congrArg (World.drewN _) (Nat.add_assoc _ _ _))⟩); have hcz43_0 : w36.cell? ⟨gb101, 0, none⟩ = some (.slice A0_0 l0_0.length c0_0) := (blk_cell BK101.out 0).trans rfl; have hcz43_1 : w36.cell? ⟨gb101, 1, none⟩ = some (.slice A0_1 l0_1.length c0_1) := (blk_cell BK101.out 1).trans rfl; have hcz43_2 : w36.cell? ⟨gb101, 2, none⟩ = some (.int .i64 a0_2) := (blk_cell BK101.out 2).trans rfl; have hcz43_3 : w36.cell? ⟨gb101, 3, none⟩ = some (.slice (some ad109) l0_3.length c0_3) := (blk_cell BK101.out 3).trans rfl; have hfz43_0 := blk_frozen BK101.out 0; have hfz43_1 := blk_frozen BK101.out 1; have hfz43_2 := blk_frozen BK101.out 2; have hfz43_3 := blk_frozen BK101.out 3))
                   repeat (go_quiet (first | (go_at_call 33; (with_reducible refine (tensileref08_In.calls ((rd_T62 l0_3 x5_5).f0) 0 100 true _ A39.out).mono ?_); rintro e w' ⟨rfl, ⟨nd, rfl⟩⟩; (try first | exact ⟨rfl, _, World.drewN_drewN _ _ _⟩ | exact ⟨rfl, _, Eq.trans (World.drewN_drewN _ _ _) (congrArg (World.drewN _) (Nat.add_assoc _ _ _))⟩); have hcz43_0 : w36.cell? ⟨gb101, 0, none⟩ = some (.slice A0_0 l0_0.length c0_0) := (blk_cell BK101.out 0).trans rfl; have hcz43_1 : w36.cell? ⟨gb101, 1, none⟩ = some (.slice A0_1 l0_1.length c0_1) := (blk_cell BK101.out 1).trans rfl; have hcz43_2 : w36.cell? ⟨gb101, 2, none⟩ = some (.int .i64 a0_2) := (blk_cell BK101.out 2).trans rfl; have hcz43_3 : w36.cell? ⟨gb101, 3, none⟩ = some (.slice (some ad109) l0_3.length c0_3) := (blk_cell BK101.out 3).trans rfl; have hfz43_0 := blk_frozen BK101.out 0; have hfz43_1 := blk_frozen BK101.out 1; have hfz43_2 := blk_frozen BK101.out 2; have hfz43_3 := blk_frozen BK101.out 3)); try go_wp2_with (first | (go_at_call 33; (with_reducible refine (tensileref08_In.calls ((rd_T62 l0_3 x5_5).f0) 0 100 true _ A39.out).mono ?_); rintro e w' ⟨rfl, ⟨nd, rfl⟩⟩; (try first | exact ⟨rfl, _, World.drewN_drewN _ _ _⟩ | exact ⟨rfl, _, Eq.trans (World.drewN_drewN _ _ _) (congrArg (World.drewN _) (Nat.add_assoc _ _ _))⟩); have hcz43_0 : w36.cell? ⟨gb101, 0, none⟩ = some (.slice A0_0 l0_0.length c0_0) := (blk_cell BK101.out 0).trans rfl; have hcz43_1 : w36.cell? ⟨gb101, 1, none⟩ = some (.slice A0_1 l0_1.length c0_1) := (blk_cell BK101.out 1).trans rfl; have hcz43_2 : w36.cell? ⟨gb101, 2, none⟩ = some (.int .i64 a0_2) := (blk_cell BK101.out 2).trans rfl; have hcz43_3 : w36.cell? ⟨gb101, 3, none⟩ = some (.slice (some ad109) l0_3.length c0_3) := (blk_cell BK101.out 3).trans rfl; have hfz43_0 := blk_frozen BK101.out 0; have hfz43_1 := blk_frozen BK101.out 1; have hfz43_2 := blk_frozen BK101.out 2; have hfz43_3 := blk_frozen BK101.out 3)))
                   go_meet
                   case rel => exact ⟨_, (((((rd_T62 l0_3 x5_5).f1).length : Int) != (l0_1.length : Int))), (by first | rfl | (simp; done) | (simp [*]; done)), H', ⟨by have := HJ1.out; have := HJ9.out; have := HK3.out; have := HK4.out; have := HK5.out; first | omega | exact Nat.le_refl _⟩, ⟨by (with_reducible repeat (first | refine blk_drewN ?_ _ | refine blk_drew ?_ | refine blk_alloc ?_ _)); refine blk_far ?_ NB101_110.out _; (with_reducible repeat (first | refine blk_drewN ?_ _ | refine blk_drew ?_ | refine blk_alloc ?_ _)); refine blk_far ?_ NB101_110.out _; (with_reducible repeat (first | refine blk_drewN ?_ _ | refine blk_drew ?_ | refine blk_alloc ?_ _)); exact BK101.out⟩, ⟨by (with_reducible repeat (first | refine blk_drewN ?_ _ | refine blk_drew ?_ | refine blk_alloc ?_ _)); refine blk_put (cs := #[.int .i64 ((rd_T62 l0_3 x5_5).f0), .slice none 0 0]) ?_ 1 _ rfl; (with_reducible repeat (first | refine blk_drewN ?_ _ | refine blk_drew ?_ | refine blk_alloc ?_ _)); refine blk_put (cs := #[.int .i64 0, .slice none 0 0]) ?_ 0 _ rfl; (with_reducible repeat (first | refine blk_drewN ?_ _ | refine blk_drew ?_ | refine blk_alloc ?_ _)); exact BK110.out⟩, ⟨by repeat (first | (with_reducible first | exact HB.out | apply below_alloc | apply pw_below_drewN | apply below_drew1 | refine below_set ?_ GE101.out | refine below_set ?_ GE110.out) | exact HB.out)⟩⟩
                  ·replace c40 := Bool.eq_false_iff.mpr c40
                   subst c40
                   have H1 : (tensileref08_Fault.j5 k5 x5_5 true l0_0 l0_1 a0_2 l0_3 ((rd_T62 l0_3 x5_5).f0) ((rd_T62 l0_3 x5_5).f1)) = some r := by rw [if_neg (show ¬ (false = true) by decide)] at H; exact H
                   clear H
                   have H := H1
                   clear H1
                   have H' := Aside0.mk H
                   clear H
                   have hnb44 := NB110_101.out
                   have hnc44 := NB101_110.out
                   have hcz45_0 : w36.cell? ⟨gb110, 0, none⟩ = some (.int .i64 0) := (blk_cell BK110.out 0).trans rfl
                   have hcz45_1 : w36.cell? ⟨gb110, 1, none⟩ = some (.slice none 0 0) := (blk_cell BK110.out 1).trans rfl
                   have hfz45_0 := blk_frozen BK110.out 0
                   have hfz45_1 := blk_frozen BK110.out 1
                   go_wp2_with (first | (go_at_call 33; (with_reducible refine (tensileref08_In.calls ((rd_T62 l0_3 x5_5).f0) 0 100 false _ A39.out).mono ?_); rintro e w' ⟨rfl, ⟨nd, rfl⟩⟩; (try first | exact ⟨rfl, _, World.drewN_drewN _ _ _⟩ | exact ⟨rfl, _, Eq.trans (World.drewN_drewN _ _ _) (congrArg (World.drewN _) (Nat.add_assoc _ _ _))⟩)))
                   repeat (go_quiet (first | (go_at_call 33; (with_reducible refine (tensileref08_In.calls ((rd_T62 l0_3 x5_5).f0) 0 100 false _ A39.out).mono ?_); rintro e w' ⟨rfl, ⟨nd, rfl⟩⟩; (try first | exact ⟨rfl, _, World.drewN_drewN _ _ _⟩ | exact ⟨rfl, _, Eq.trans (World.drewN_drewN _ _ _) (congrArg (World.drewN _) (Nat.add_assoc _ _ _))⟩))); try go_wp2_with (first | (go_at_call 33; (with_reducible refine (tensileref08_In.calls ((rd_T62 l0_3 x5_5).f0) 0 100 false _ A39.out).mono ?_); rintro e w' ⟨rfl, ⟨nd, rfl⟩⟩; (try first | exact ⟨rfl, _, World.drewN_drewN _ _ _⟩ | exact ⟨rfl, _, Eq.trans (World.drewN_drewN _ _ _) (congrArg (World.drewN _) (Nat.add_assoc _ _ _))⟩))))
                   go_meet
                   case rel => exact ⟨_, (true), (by first | rfl | (simp; done) | (simp [*]; done)), H', ⟨by have := HJ1.out; have := HJ9.out; have := HK3.out; have := HK4.out; have := HK5.out; first | omega | exact Nat.le_refl _⟩, ⟨by (with_reducible repeat (first | refine blk_drewN ?_ _ | refine blk_drew ?_ | refine blk_alloc ?_ _)); refine blk_far ?_ NB101_110.out _; (with_reducible repeat (first | refine blk_drewN ?_ _ | refine blk_drew ?_ | refine blk_alloc ?_ _)); refine blk_far ?_ NB101_110.out _; (with_reducible repeat (first | refine blk_drewN ?_ _ | refine blk_drew ?_ | refine blk_alloc ?_ _)); exact BK101.out⟩, ⟨by (with_reducible repeat (first | refine blk_drewN ?_ _ | refine blk_drew ?_ | refine blk_alloc ?_ _)); refine blk_put (cs := #[.int .i64 ((rd_T62 l0_3 x5_5).f0), .slice none 0 0]) ?_ 1 _ rfl; (with_reducible repeat (first | refine blk_drewN ?_ _ | refine blk_drew ?_ | refine blk_alloc ?_ _)); refine blk_put (cs := #[.int .i64 0, .slice none 0 0]) ?_ 0 _ rfl; (with_reducible repeat (first | refine blk_drewN ?_ _ | refine blk_drew ?_ | refine blk_alloc ?_ _)); exact BK110.out⟩, ⟨by repeat (first | (with_reducible first | exact HB.out | apply below_alloc | apply pw_below_drewN | apply below_drew1 | refine below_set ?_ GE101.out | refine below_set ?_ GE110.out) | exact HB.out)⟩⟩
                 case rest =>
                  clear HC34
                  try clear c1
                  try clear p1
                  try clear q1
                  try clear hx1
                  try clear c2
                  try clear p2
                  try clear c3
                  try clear c4
                  try clear c4b0
                  try clear c4b1
                  try clear c6
                  try clear c6b0
                  try clear c6b1
                  try clear p6
                  try clear c9
                  try clear c10
                  try clear p10
                  try clear q10
                  try clear hx10
                  try clear c11
                  try clear c11b0
                  try clear c11b1
                  try clear c11b2
                  try clear c15
                  try clear c16
                  try clear c16b0
                  try clear c17
                  try clear c17b0
                  try clear c19
                  try clear c20
                  try clear c20b0
                  try clear c25
                  try clear c25b0
                  try clear c26
                  try clear c26b0
                  try clear c28
                  try clear c32
                  try clear c32b0
                  try clear c33
                  try clear c33b0
                  try clear c37
                  try clear c40
                  try clear c41
                  try clear c44
                  try clear hcz12_0
                  try clear hcz12_1
                  try clear hcz12_2
                  try clear hcz12_3
                  try clear hcz14_0
                  try clear hcz14_1
                  try clear hcz14_2
                  try clear hcz14_3
                  try clear hcz21_0
                  try clear hcz21_1
                  try clear hcz21_2
                  try clear hcz21_3
                  try clear hcz22_0
                  try clear hcz22_1
                  try clear hcz22_2
                  try clear hcz22_3
                  try clear hcz23_0
                  try clear hcz23_1
                  try clear hcz23_2
                  try clear hcz23_3
                  try clear hcz24_0
                  try clear hcz24_1
                  try clear hcz24_2
                  try clear hcz24_3
                  try clear hcz29_0
                  try clear hcz29_1
                  try clear hcz29_2
                  try clear hcz29_3
                  try clear hcz30_0
                  try clear hcz30_1
                  try clear hcz30_2
                  try clear hcz30_3
                  try clear hcz31_0
                  try clear hcz31_1
                  try clear hcz31_2
                  try clear hcz31_3
                  try clear hcz35_0
                  try clear hcz35_1
                  try clear hcz35_2
                  try clear hcz35_3
                  try clear hcz38_0
                  try clear hcz38_1
                  try clear hcz42_0
                  try clear hcz42_1
                  try clear hcz43_0
                  try clear hcz43_1
                  try clear hcz43_2
                  try clear hcz43_3
                  try clear hcz45_0
                  try clear hcz45_1
                  try clear hcz5_0
                  try clear hcz5_1
                  try clear hcz5_2
                  try clear hcz5_3
                  try clear hcz7_0
                  try clear hcz7_1
                  try clear hcz7_2
                  try clear hcz7_3
                  try clear hcz8_0
                  try clear hcz8_1
                  try clear hcz8_2
                  try clear hcz8_3
                  try clear hfz12_0
                  try clear hfz12_1
                  try clear hfz12_2
                  try clear hfz12_3
                  try clear hfz14_0
                  try clear hfz14_1
                  try clear hfz14_2
                  try clear hfz14_3
                  try clear hfz21_0
                  try clear hfz21_1
                  try clear hfz21_2
                  try clear hfz21_3
                  try clear hfz22_0
                  try clear hfz22_1
                  try clear hfz22_2
                  try clear hfz22_3
                  try clear hfz23_0
                  try clear hfz23_1
                  try clear hfz23_2
                  try clear hfz23_3
                  try clear hfz24_0
                  try clear hfz24_1
                  try clear hfz24_2
                  try clear hfz24_3
                  try clear hfz29_0
                  try clear hfz29_1
                  try clear hfz29_2
                  try clear hfz29_3
                  try clear hfz30_0
                  try clear hfz30_1
                  try clear hfz30_2
                  try clear hfz30_3
                  try clear hfz31_0
                  try clear hfz31_1
                  try clear hfz31_2
                  try clear hfz31_3
                  try clear hfz35_0
                  try clear hfz35_1
                  try clear hfz35_2
                  try clear hfz35_3
                  try clear hfz38_0
                  try clear hfz38_1
                  try clear hfz42_0
                  try clear hfz42_1
                  try clear hfz43_0
                  try clear hfz43_1
                  try clear hfz43_2
                  try clear hfz43_3
                  try clear hfz45_0
                  try clear hfz45_1
                  try clear hfz5_0
                  try clear hfz5_1
                  try clear hfz5_2
                  try clear hfz5_3
                  try clear hfz7_0
                  try clear hfz7_1
                  try clear hfz7_2
                  try clear hfz7_3
                  try clear hfz8_0
                  try clear hfz8_1
                  try clear hfz8_2
                  try clear hfz8_3
                  try clear hx103_0
                  try clear hx103_1
                  try clear hx104_0
                  try clear hx104_1
                  try clear hx106_0
                  try clear hx106_1
                  try clear hx107_0
                  try clear hx109_0
                  try clear hx109_1
                  try clear p1
                  try clear p10
                  try clear p103
                  try clear p104
                  try clear p106
                  try clear p107
                  try clear p109
                  try clear p2
                  try clear p6
                  try clear q1
                  try clear q10
                  try clear q103
                  try clear q104
                  try clear q106
                  try clear q107
                  try clear q109
                  obtain ⟨kq, x106_33, rfl, HA, HJ33, BK101, BK110, HB⟩ := hcut
                  cases kq with
                  | zero => exact absurd HA.out (by simp [tensileref08_Fault.j5])
                  | succ kj33 =>
                   have H := HA.out
                   clear HA
                   simp only [tensileref08_Fault.j5] at H
                   by_cases c46 : x106_33 = true
                   ·subst c46
                    have H1 : (some 1) = some r := by rw [if_pos rfl] at H; exact H
                    clear H
                    have H := H1
                    clear H1
                    obtain rfl := Option.some.inj H
                    go_wp2
                    repeat (go_quiet (fail); try go_wp2)
                    go_ret
                    exact ⟨by first | rfl | (simp [errW_none, errW_some] <;> rfl) | (simp [*, errW_none, errW_some] <;> rfl), by repeat (first | (with_reducible first | exact HB.out | apply below_alloc | apply pw_below_drewN | apply below_drew1 | refine below_set ?_ GE101.out | refine below_set ?_ GE110.out) | exact HB.out)⟩
                   ·replace c46 := Bool.eq_false_iff.mpr c46
                    subst c46
                    have H1 : (tensileref08_Fault.l3 kj33 x5_5 0 l0_0 l0_1 a0_2 l0_3 ((rd_T62 l0_3 x5_5).f0) ((rd_T62 l0_3 x5_5).f1)) = some r := by rw [if_neg (show ¬ (false = true) by decide)] at H; exact H
                    clear H
                    have H := H1
                    clear H1
                    have H' := Aside0.mk H
                    clear H
                    go_wp2
                    repeat (go_quiet (fail); try go_wp2)
                    go_loopg [7] kj33 (fun kq v7 w' => ∃ (x7_7 : Int), v7 = .int .i64 x7_7 ∧ Aside0 (tensileref08_Fault.l3 kq x5_5 x7_7 l0_0 l0_1 a0_2 l0_3 ((rd_T62 l0_3 x5_5).f0) ((rd_T62 l0_3 x5_5).f1) = some r) ∧ Aside0 (kq ≤ kj33) ∧ Aside0 (w'.heap[gb101]? = some (.cells #[(.slice A0_0 l0_0.length c0_0), (.slice A0_1 l0_1.length c0_1), .int .i64 a0_2, (.slice (some ad109) l0_3.length c0_3)] 26 (0, 0))) ∧ Aside0 (w'.heap[gb110]? = some (.cells #[.int .i64 ((rd_T62 l0_3 x5_5).f0), (.slice A109_1 ((rd_T62 l0_3 x5_5).f1).length c109_1)] 62 (0, 0))) ∧ Aside0 (Below w.heap.size w w'))
                    case atStart => exact ⟨(0), (by first | rfl | (simp; done) | (simp [*]; done)), H', ⟨Nat.le_refl _⟩, ⟨by (with_reducible repeat (first | refine blk_drewN ?_ _ | refine blk_drew ?_ | refine blk_alloc ?_ _)); exact BK101.out⟩, ⟨by (with_reducible repeat (first | refine blk_drewN ?_ _ | refine blk_drew ?_ | refine blk_alloc ?_ _)); exact BK110.out⟩, ⟨by repeat (first | (with_reducible first | exact HB.out | apply below_alloc | apply pw_below_drewN | apply below_drew1 | refine below_set ?_ GE101.out | refine below_set ?_ GE110.out) | exact HB.out)⟩⟩
                    case round =>
                     clear H'
                     try clear c1
                     try clear p1
                     try clear q1
                     try clear hx1
                     try clear c2
                     try clear p2
                     try clear c3
                     try clear c4
                     try clear c4b0
                     try clear c4b1
                     try clear c6
                     try clear c6b0
                     try clear c6b1
                     try clear p6
                     try clear c9
                     try clear c10
                     try clear p10
                     try clear q10
                     try clear hx10
                     try clear c11
                     try clear c11b0
                     try clear c11b1
                     try clear c11b2
                     try clear c15
                     try clear c16
                     try clear c16b0
                     try clear c17
                     try clear c17b0
                     try clear c19
                     try clear c20
                     try clear c20b0
                     try clear c25
                     try clear c25b0
                     try clear c26
                     try clear c26b0
                     try clear c28
                     try clear c32
                     try clear c32b0
                     try clear c33
                     try clear c33b0
                     try clear c37
                     try clear c40
                     try clear c41
                     try clear c44
                     try clear c46
                     try clear hcz12_0
                     try clear hcz12_1
                     try clear hcz12_2
                     try clear hcz12_3
                     try clear hcz14_0
                     try clear hcz14_1
                     try clear hcz14_2
                     try clear hcz14_3
                     try clear hcz21_0
                     try clear hcz21_1
                     try clear hcz21_2
                     try clear hcz21_3
                     try clear hcz22_0
                     try clear hcz22_1
                     try clear hcz22_2
                     try clear hcz22_3
                     try clear hcz23_0
                     try clear hcz23_1
                     try clear hcz23_2
                     try clear hcz23_3
                     try clear hcz24_0
                     try clear hcz24_1
                     try clear hcz24_2
                     try clear hcz24_3
                     try clear hcz29_0
                     try clear hcz29_1
                     try clear hcz29_2
                     try clear hcz29_3
                     try clear hcz30_0
                     try clear hcz30_1
                     try clear hcz30_2
                     try clear hcz30_3
                     try clear hcz31_0
                     try clear hcz31_1
                     try clear hcz31_2
                     try clear hcz31_3
                     try clear hcz35_0
                     try clear hcz35_1
                     try clear hcz35_2
                     try clear hcz35_3
                     try clear hcz38_0
                     try clear hcz38_1
                     try clear hcz42_0
                     try clear hcz42_1
                     try clear hcz43_0
                     try clear hcz43_1
                     try clear hcz43_2
                     try clear hcz43_3
                     try clear hcz45_0
                     try clear hcz45_1
                     try clear hcz5_0
                     try clear hcz5_1
                     try clear hcz5_2
                     try clear hcz5_3
                     try clear hcz7_0
                     try clear hcz7_1
                     try clear hcz7_2
                     try clear hcz7_3
                     try clear hcz8_0
                     try clear hcz8_1
                     try clear hcz8_2
                     try clear hcz8_3
                     try clear hfz12_0
                     try clear hfz12_1
                     try clear hfz12_2
                     try clear hfz12_3
                     try clear hfz14_0
                     try clear hfz14_1
                     try clear hfz14_2
                     try clear hfz14_3
                     try clear hfz21_0
                     try clear hfz21_1
                     try clear hfz21_2
                     try clear hfz21_3
                     try clear hfz22_0
                     try clear hfz22_1
                     try clear hfz22_2
                     try clear hfz22_3
                     try clear hfz23_0
                     try clear hfz23_1
                     try clear hfz23_2
                     try clear hfz23_3
                     try clear hfz24_0
                     try clear hfz24_1
                     try clear hfz24_2
                     try clear hfz24_3
                     try clear hfz29_0
                     try clear hfz29_1
                     try clear hfz29_2
                     try clear hfz29_3
                     try clear hfz30_0
                     try clear hfz30_1
                     try clear hfz30_2
                     try clear hfz30_3
                     try clear hfz31_0
                     try clear hfz31_1
                     try clear hfz31_2
                     try clear hfz31_3
                     try clear hfz35_0
                     try clear hfz35_1
                     try clear hfz35_2
                     try clear hfz35_3
                     try clear hfz38_0
                     try clear hfz38_1
                     try clear hfz42_0
                     try clear hfz42_1
                     try clear hfz43_0
                     try clear hfz43_1
                     try clear hfz43_2
                     try clear hfz43_3
                     try clear hfz45_0
                     try clear hfz45_1
                     try clear hfz5_0
                     try clear hfz5_1
                     try clear hfz5_2
                     try clear hfz5_3
                     try clear hfz7_0
                     try clear hfz7_1
                     try clear hfz7_2
                     try clear hfz7_3
                     try clear hfz8_0
                     try clear hfz8_1
                     try clear hfz8_2
                     try clear hfz8_3
                     try clear hx103_0
                     try clear hx103_1
                     try clear hx104_0
                     try clear hx104_1
                     try clear hx106_0
                     try clear hx106_1
                     try clear hx107_0
                     try clear hx109_0
                     try clear hx109_1
                     try clear p1
                     try clear p10
                     try clear p103
                     try clear p104
                     try clear p106
                     try clear p107
                     try clear p109
                     try clear p2
                     try clear p6
                     try clear q1
                     try clear q10
                     try clear q103
                     try clear q104
                     try clear q106
                     try clear q107
                     try clear q109
                     obtain ⟨x7_7, rfl, HA, HK7, BK101, BK110, HB⟩ := hrel
                     cases gk with
                     | zero => exact absurd HA.out (by simp [tensileref08_Fault.l3])
                     | succ k7 =>
                      have H := HA.out
                      clear HA
                      simp only [tensileref08_Fault.l3] at H
                      by_cases c47 : x7_7 < (((rd_T62 l0_3 x5_5).f1).length : Int)
                      ·rw [if_pos c47] at H
                       have c47b0 : decide (x7_7 < (((rd_T62 l0_3 x5_5).f1).length : Int)) = true := decide_eq_true c47
                       clear c47
                       by_cases c48 : 0 ≤ x7_7
                       ·rw [if_pos c48] at H
                        have c48b0 : decide (0 ≤ x7_7) = true := decide_eq_true c48
                        clear c48
                        replace H := Option.bind_eq_some_iff.mp H
                        obtain ⟨t113, A490, H⟩ := H
                        replace H : (if t113 = true then (tensileref08_Fault.l3 k7 x5_5 (wrap64 (x7_7 + 1)) l0_0 l0_1 a0_2 l0_3 ((rd_T62 l0_3 x5_5).f0) ((rd_T62 l0_3 x5_5).f1)) else (some 1)) = some r := H
                        have A49 := Aside0.mk A490
                        clear A490
                        by_cases c50 : t113 = true
                        ·subst c50
                         have H1 : (tensileref08_Fault.l3 k7 x5_5 (wrap64 (x7_7 + 1)) l0_0 l0_1 a0_2 l0_3 ((rd_T62 l0_3 x5_5).f0) ((rd_T62 l0_3 x5_5).f1)) = some r := by rw [if_pos rfl] at H; exact H
                         clear H
                         have H := H1
                         clear H1
                         have H' := Aside0.mk H
                         clear H
                         have hnb51 := NB110_101.out
                         have hnc51 := NB101_110.out
                         have hcz52_0 : wr.cell? ⟨gb110, 0, none⟩ = some (.int .i64 ((rd_T62 l0_3 x5_5).f0)) := (blk_cell BK110.out 0).trans rfl
                         have hcz52_1 : wr.cell? ⟨gb110, 1, none⟩ = some (.slice A109_1 ((rd_T62 l0_3 x5_5).f1).length c109_1) := (blk_cell BK110.out 1).trans rfl
                         have hfz52_0 := blk_frozen BK110.out 0
                         have hfz52_1 := blk_frozen BK110.out 1
                         have p112 : 0 ≤ (x7_7 : Int) := of_decide_eq_true (by first | (with_reducible assumption) | assumption)
                         have q112 : x7_7 < (((rd_T62 l0_3 x5_5).f1).length : Int) := of_decide_eq_true (by first | (with_reducible assumption) | assumption)
                         obtain ⟨ad112, e112, hx112_0⟩ := Kd.at_int HR109_1.out x7_7 p112 q112
                         cases e112
                         replace hx112_0 := (HB.out.cell (World.block_lt_of_cell? w _ hx112_0)).trans hx112_0
                         replace p112 := eq_true p112
                         replace q112 := eq_true q112
                         go_wp2_with (first | (go_at_call 33; (with_reducible refine (tensileref08_In.calls (rd ((rd_T62 l0_3 x5_5).f1) x7_7) (-1) 1000 true _ A49.out).mono ?_); rintro e w' ⟨rfl, ⟨nd, rfl⟩⟩; (try first | exact ⟨rfl, _, World.drewN_drewN _ _ _⟩ | exact ⟨rfl, _, Eq.trans (World.drewN_drewN _ _ _) (congrArg (World.drewN _) (Nat.add_assoc _ _ _))⟩)))
                         repeat (go_quiet (first | (go_at_call 33; (with_reducible refine (tensileref08_In.calls (rd ((rd_T62 l0_3 x5_5).f1) x7_7) (-1) 1000 true _ A49.out).mono ?_); rintro e w' ⟨rfl, ⟨nd, rfl⟩⟩; (try first | exact ⟨rfl, _, World.drewN_drewN _ _ _⟩ | exact ⟨rfl, _, Eq.trans (World.drewN_drewN _ _ _) (congrArg (World.drewN _) (Nat.add_assoc _ _ _))⟩))); try go_wp2_with (first | (go_at_call 33; (with_reducible refine (tensileref08_In.calls (rd ((rd_T62 l0_3 x5_5).f1) x7_7) (-1) 1000 true _ A49.out).mono ?_); rintro e w' ⟨rfl, ⟨nd, rfl⟩⟩; (try first | exact ⟨rfl, _, World.drewN_drewN _ _ _⟩ | exact ⟨rfl, _, Eq.trans (World.drewN_drewN _ _ _) (congrArg (World.drewN _) (Nat.add_assoc _ _ _))⟩))))
                         go_roundg k7
                         case measure => have := HJ1.out; have := HJ9.out; have := HK3.out; have := HK4.out; have := HK5.out; have := HJ33.out; have := HK7.out; omega
                         case rel => exact ⟨(wrap64 (x7_7 + 1)), (by first | rfl | (simp; done) | (simp [*]; done)), H', ⟨by have := HJ1.out; have := HJ9.out; have := HK3.out; have := HK4.out; have := HK5.out; have := HJ33.out; have := HK7.out; omega⟩, ⟨by (with_reducible repeat (first | refine blk_drewN ?_ _ | refine blk_drew ?_ | refine blk_alloc ?_ _)); exact BK101.out⟩, ⟨by (with_reducible repeat (first | refine blk_drewN ?_ _ | refine blk_drew ?_ | refine blk_alloc ?_ _)); exact BK110.out⟩, ⟨by repeat (first | (with_reducible first | exact HB.out | apply below_alloc | apply pw_below_drewN | apply below_drew1 | refine below_set ?_ GE101.out | refine below_set ?_ GE110.out) | exact HB.out)⟩⟩
                        ·replace c50 := Bool.eq_false_iff.mpr c50
                         subst c50
                         have H1 : (some 1) = some r := by rw [if_neg (show ¬ (false = true) by decide)] at H; exact H
                         clear H
                         have H := H1
                         clear H1
                         obtain rfl := Option.some.inj H
                         have hnb53 := NB110_101.out
                         have hnc53 := NB101_110.out
                         have hcz54_0 : wr.cell? ⟨gb110, 0, none⟩ = some (.int .i64 ((rd_T62 l0_3 x5_5).f0)) := (blk_cell BK110.out 0).trans rfl
                         have hcz54_1 : wr.cell? ⟨gb110, 1, none⟩ = some (.slice A109_1 ((rd_T62 l0_3 x5_5).f1).length c109_1) := (blk_cell BK110.out 1).trans rfl
                         have hfz54_0 := blk_frozen BK110.out 0
                         have hfz54_1 := blk_frozen BK110.out 1
                         have p112 : 0 ≤ (x7_7 : Int) := of_decide_eq_true (by first | (with_reducible assumption) | assumption)
                         have q112 : x7_7 < (((rd_T62 l0_3 x5_5).f1).length : Int) := of_decide_eq_true (by first | (with_reducible assumption) | assumption)
                         obtain ⟨ad112, e112, hx112_0⟩ := Kd.at_int HR109_1.out x7_7 p112 q112
                         cases e112
                         replace hx112_0 := (HB.out.cell (World.block_lt_of_cell? w _ hx112_0)).trans hx112_0
                         replace p112 := eq_true p112
                         replace q112 := eq_true q112
                         go_wp2_with (first | (go_at_call 33; (with_reducible refine (tensileref08_In.calls (rd ((rd_T62 l0_3 x5_5).f1) x7_7) (-1) 1000 false _ A49.out).mono ?_); rintro e w' ⟨rfl, ⟨nd, rfl⟩⟩; (try first | exact ⟨rfl, _, World.drewN_drewN _ _ _⟩ | exact ⟨rfl, _, Eq.trans (World.drewN_drewN _ _ _) (congrArg (World.drewN _) (Nat.add_assoc _ _ _))⟩)))
                         repeat (go_quiet (first | (go_at_call 33; (with_reducible refine (tensileref08_In.calls (rd ((rd_T62 l0_3 x5_5).f1) x7_7) (-1) 1000 false _ A49.out).mono ?_); rintro e w' ⟨rfl, ⟨nd, rfl⟩⟩; (try first | exact ⟨rfl, _, World.drewN_drewN _ _ _⟩ | exact ⟨rfl, _, Eq.trans (World.drewN_drewN _ _ _) (congrArg (World.drewN _) (Nat.add_assoc _ _ _))⟩))); try go_wp2_with (first | (go_at_call 33; (with_reducible refine (tensileref08_In.calls (rd ((rd_T62 l0_3 x5_5).f1) x7_7) (-1) 1000 false _ A49.out).mono ?_); rintro e w' ⟨rfl, ⟨nd, rfl⟩⟩; (try first | exact ⟨rfl, _, World.drewN_drewN _ _ _⟩ | exact ⟨rfl, _, Eq.trans (World.drewN_drewN _ _ _) (congrArg (World.drewN _) (Nat.add_assoc _ _ _))⟩))))
                         go_ret
                         exact ⟨by first | rfl | (simp [errW_none, errW_some] <;> rfl) | (simp [*, errW_none, errW_some] <;> rfl), by repeat (first | (with_reducible first | exact HB.out | apply below_alloc | apply pw_below_drewN | apply below_drew1 | refine below_set ?_ GE101.out | refine below_set ?_ GE110.out) | exact HB.out)⟩
                       ·rw [if_neg c48] at H
                        exact absurd H (by simp)
                      ·rw [if_neg c47] at H
                       have c47b0 : decide (x7_7 < (((rd_T62 l0_3 x5_5).f1).length : Int)) = false := decide_eq_false c47
                       clear c47
                       have H' := Aside0.mk H
                       clear H
                       have hnb55 := NB110_101.out
                       have hnc55 := NB101_110.out
                       have hcz56_0 : wr.cell? ⟨gb110, 0, none⟩ = some (.int .i64 ((rd_T62 l0_3 x5_5).f0)) := (blk_cell BK110.out 0).trans rfl
                       have hcz56_1 : wr.cell? ⟨gb110, 1, none⟩ = some (.slice A109_1 ((rd_T62 l0_3 x5_5).f1).length c109_1) := (blk_cell BK110.out 1).trans rfl
                       have hfz56_0 := blk_frozen BK110.out 0
                       have hfz56_1 := blk_frozen BK110.out 1
                       go_wp2
                       repeat (go_quiet (fail); try go_wp2)
                       go_roundg k7
                       case measure => have := HJ1.out; have := HJ9.out; have := HK3.out; have := HK4.out; have := HK5.out; have := HJ33.out; have := HK7.out; omega
                       case rel => exact ⟨(wrap64 (x5_5 + 1)), (by first | rfl | (simp; done) | (simp [*]; done)), H', ⟨by have := HJ1.out; have := HJ9.out; have := HK3.out; have := HK4.out; have := HK5.out; have := HJ33.out; have := HK7.out; omega⟩, ⟨by (with_reducible repeat (first | refine blk_drewN ?_ _ | refine blk_drew ?_ | refine blk_alloc ?_ _)); exact BK101.out⟩, ⟨by repeat (first | (with_reducible first | exact HB.out | apply below_alloc | apply pw_below_drewN | apply below_drew1 | refine below_set ?_ GE101.out | refine below_set ?_ GE110.out) | exact HB.out)⟩⟩
                ·rw [if_neg c33] at H
                 exact absurd H (by simp)
               ·rw [if_neg c32] at H
                have c32b0 : decide (x5_5 < (l0_3.length : Int)) = false := decide_eq_false c32
                clear c32
                obtain rfl := Option.some.inj H
                have hcz57_0 : wr.cell? ⟨gb101, 0, none⟩ = some (.slice A0_0 l0_0.length c0_0) := (blk_cell BK101.out 0).trans rfl
                have hcz57_1 : wr.cell? ⟨gb101, 1, none⟩ = some (.slice A0_1 l0_1.length c0_1) := (blk_cell BK101.out 1).trans rfl
                have hcz57_2 : wr.cell? ⟨gb101, 2, none⟩ = some (.int .i64 a0_2) := (blk_cell BK101.out 2).trans rfl
                have hcz57_3 : wr.cell? ⟨gb101, 3, none⟩ = some (.slice A0_3 l0_3.length c0_3) := (blk_cell BK101.out 3).trans rfl
                have hfz57_0 := blk_frozen BK101.out 0
                have hfz57_1 := blk_frozen BK101.out 1
                have hfz57_2 := blk_frozen BK101.out 2
                have hfz57_3 := blk_frozen BK101.out 3
                go_wp2
                repeat (go_quiet (fail); try go_wp2)
                go_ret
                exact ⟨by first | rfl | (simp [errW_none, errW_some] <;> rfl) | (simp [*, errW_none, errW_some] <;> rfl), by repeat (first | (with_reducible first | exact HB.out | apply below_alloc | apply pw_below_drewN | apply below_drew1 | refine below_set ?_ GE101.out) | exact HB.out)⟩
end Go.Proofs.Ytcpbhklaffgokaa.Q
namespace Go.Proofs.Ytcpbhklaffgokaa.Q
open Go.RowKit Go.Proofs.YtcpbhklaffgokaaW.PrintWords Go.Proofs.YtcpbhklaffgokaaW.PrintLast Go.Proofs.YtcpbhklaffgokaaW.PrintMore
attribute [local go_sem] max2_int min2_int max_two min_two max_three min_three max_four min_four
set_option linter.unusedVariables false
set_option linter.unusedSimpArgs false
def tensileref08_Has.l0 : Nat → List Int → Int → Int → Option (Bool)
 | 0, _, _, _ => none
 | k + 1, x0, x1, x5 => if x5 < (x0.length : Int) then (if 0 ≤ x5 then (if (rd x0 x5) = x1 then (some true) else (tensileref08_Has.l0 k x0 x1 (wrap64 (x5 + 1)))) else (none)) else (some false)
def tensileref08_Has.f (k : Nat) (l0 : List Int) (a1 : Int) : Option (Bool) := tensileref08_Has.l0 k l0 a1 0
set_option maxHeartbeats 8000000 in
set_option maxRecDepth 100000 in
theorem tensileref08_Has.calls (k : Nat) (A0 : Option Addr) (c0 : Nat) (l0 : List Int) (a1 : Int) (r : Bool) (w : World) (hr0 : Kd.C (Kd.int .i64) w A0 l0.length l0) (hc0 : l0.length ≤ c0) (h : tensileref08_Has.f k l0 a1 = some r) :
  Calls Try.prog 39 #[.slice A0 l0.length c0, .int .i64 a1] w fun e w' => e = .returned (.bool r) ∧ Drawn0 w w' := by
 have HR0 := Aside0.mk hr0
 have HC0 := Aside0.mk hc0
 clear hr0 hc0
 have H : (tensileref08_Has.l0 k l0 a1 0) = some r := h
 clear h
 have H' := Aside0.mk H
 clear H
 go_enter Try.func39, Try.ntmps39
 go_wp2
 go_loopg [5] k (fun kq v5 w' => ∃ (x5_1 : Int), v5 = .int .i64 x5_1 ∧ Aside0 (tensileref08_Has.l0 kq l0 a1 x5_1 = some r) ∧ Aside0 (kq ≤ k) ∧ Drawn0 w w')
 case atStart => exact ⟨(0), (by first | rfl | (simp; done) | (simp [*]; done)), H', ⟨Nat.le_refl _⟩, by repeat (first | exact Drawn0.refl _ | apply Drawn0.step)⟩
 case round =>
  clear H'
  try clear p2
  obtain ⟨x5_1, rfl, HA, HK1, ⟨m1, rfl⟩⟩ := hrel
  cases gk with
  | zero => exact absurd HA.out (by simp [tensileref08_Has.l0])
  | succ k1 =>
   have H := HA.out
   clear HA
   simp only [tensileref08_Has.l0] at H
   by_cases c3 : x5_1 < (l0.length : Int)
   ·rw [if_pos c3] at H
    have c3b0 : decide (x5_1 < (l0.length : Int)) = true := decide_eq_true c3
    clear c3
    by_cases c4 : 0 ≤ x5_1
    ·rw [if_pos c4] at H
     have c4b0 : decide (0 ≤ x5_1) = true := decide_eq_true c4
     clear c4
     by_cases c5 : (rd l0 x5_1) = a1
     ·rw [if_pos c5] at H
      have c5b0 : ((rd l0 x5_1) == a1) = true := beq_iff_eq.mpr c5
      have c5b1 : ((rd l0 x5_1) != a1) = false := bne_eq_false_iff_eq.mpr c5
      clear c5
      obtain rfl := Option.some.inj H
      have p187 : 0 ≤ (x5_1 : Int) := of_decide_eq_true (by first | (with_reducible assumption) | assumption)
      have q187 : x5_1 < (l0.length : Int) := of_decide_eq_true (by first | (with_reducible assumption) | assumption)
      obtain ⟨ad187, e187, hx187_0⟩ := Kd.at_int HR0.out x5_1 p187 q187
      cases e187
      replace p187 := eq_true p187
      replace q187 := eq_true q187
      go_wp2
      go_ret
      exact ⟨by first | rfl | (simp; done) | (simp [*]; done), by repeat (first | exact Drawn0.refl _ | apply Drawn0.step)⟩
     ·rw [if_neg c5] at H
      have c5b0 : ((rd l0 x5_1) == a1) = false := beq_eq_false_iff_ne.mpr c5
      have c5b1 : ((rd l0 x5_1) != a1) = true := bne_iff_ne.mpr c5
      have H' := Aside0.mk H
      clear H
      have p187 : 0 ≤ (x5_1 : Int) := of_decide_eq_true (by first | (with_reducible assumption) | assumption)
      have q187 : x5_1 < (l0.length : Int) := of_decide_eq_true (by first | (with_reducible assumption) | assumption)
      obtain ⟨ad187, e187, hx187_0⟩ := Kd.at_int HR0.out x5_1 p187 q187
      cases e187
      replace p187 := eq_true p187
      replace q187 := eq_true q187
      go_wp2
      go_roundg k1
      case measure => have := HK1.out; omega
      case rel => exact ⟨(wrap64 (x5_1 + 1)), (by first | rfl | (simp; done) | (simp [*]; done)), H', ⟨by have := HK1.out; omega⟩, by repeat (first | exact Drawn0.refl _ | apply Drawn0.step)⟩
    ·rw [if_neg c4] at H
     exact absurd H (by simp)
   ·rw [if_neg c3] at H
    have c3b0 : decide (x5_1 < (l0.length : Int)) = false := decide_eq_false c3
    clear c3
    obtain rfl := Option.some.inj H
    go_wp2
    go_ret
    exact ⟨by first | rfl | (simp; done) | (simp [*]; done), by repeat (first | exact Drawn0.refl _ | apply Drawn0.step)⟩
end Go.Proofs.Ytcpbhklaffgokaa.Q
namespace Go.Proofs.Ytcpbhklaffgokaa.Q
open Go.RowKit Go.Proofs.YtcpbhklaffgokaaW.PrintWords Go.Proofs.YtcpbhklaffgokaaW.PrintLast Go.Proofs.YtcpbhklaffgokaaW.PrintMore
attribute [local go_sem] max2_int min2_int max_two min_two max_three min_three max_four min_four
set_option linter.unusedVariables false
set_option linter.unusedSimpArgs false
end Go.Proofs.Ytcpbhklaffgokaa.Q
namespace Go.Proofs.Ytcpbhklaffgokaa.Q
open Go.RowKit Go.Proofs.YtcpbhklaffgokaaW.PrintWords Go.Proofs.YtcpbhklaffgokaaW.PrintLast Go.Proofs.YtcpbhklaffgokaaW.PrintMore
set_option linter.unusedVariables false
set_option linter.unusedSimpArgs false
def m46 (x : S44) : S46 := ⟨x.f0, x.f1⟩
def m75 (x : S62) : S75 := ⟨x.f0, x.f1⟩
theorem wr (x : Int) (h0 : -9223372036854775808 ≤ x) (h1 : x ≤ 9223372036854775807) : wrap64 x = x := by
 unfold wrap64
 omega
theorem wr1 (i n : Nat) (h : i < n) (hn : n ≤ 9223372036854775807) : wrap64 ((i : Int) + 1) = ((i + 1 : Nat) : Int) := by
 rw [wr _ (by omega) (by omega)]
 omega
theorem rd_drop (xs : List Int) (i : Nat) (h : i < xs.length) : xs.drop i = rd xs (i : Int) :: xs.drop (i + 1) := by
 rw [List.drop_eq_getElem_cons h, rd, Int.toNat_natCast, List.getD_eq_getElem?_getD, List.getElem?_eq_getElem h]
 rfl
theorem rd44_drop (xs : List S44) (i : Nat) (h : i < xs.length) : xs.drop i = rd_T44 xs (i : Int) :: xs.drop (i + 1) := by
 rw [List.drop_eq_getElem_cons h, rd_T44, Int.toNat_natCast, List.getD_eq_getElem?_getD, List.getElem?_eq_getElem h]
 rfl
theorem rd62_drop (xs : List S62) (i : Nat) (h : i < xs.length) : xs.drop i = rd_T62 xs (i : Int) :: xs.drop (i + 1) := by
 rw [List.drop_eq_getElem_cons h, rd_T62, Int.toNat_natCast, List.getD_eq_getElem?_getD, List.getElem?_eq_getElem h]
 rfl
theorem drop_end {α : Type} (xs : List α) (i : Nat) (h : ¬ i < xs.length) : xs.drop i = [] := List.drop_eq_nil_of_le (by omega)
theorem mem_drop0 {α : Type} {xs : List α} {i : Nat} {x : α} {ys : List α} (h : xs.drop i = x :: ys) : x ∈ xs := by
 have : x ∈ xs.drop i := by rw [h]; exact List.mem_cons_self
 exact List.mem_of_mem_drop this
structure Sz (lots : List S44) (samples : List Int) (labs : List S62) : Prop where
 a : lots.length ≤ 9223372036854775807
 b : samples.length ≤ 9223372036854775807
 c : labs.length ≤ 9223372036854775807
 d : ∀ x ∈ labs, x.f1.length ≤ 9223372036854775807
theorem In_eq (a b c : Int) : tensileref08_In.f a b c = some (withinB a b c) := by
 unfold tensileref08_In.f withinB
 by_cases h : a ≥ b
 ·rw [if_pos h, decide_eq_true (show b ≤ a from h), Bool.true_and]
 ·rw [if_neg h, decide_eq_false (show ¬ b ≤ a from h), Bool.false_and]
section
variable (lots : List S44) (samples : List Int) (spread : Int) (labs : List S62)
theorem Fault_l3 {x5 f0 : Int} {ys : List Int} (hy : ys.length ≤ 9223372036854775807) {R : Int} (hR : Ev (fun k => tensileref08_Fault.l2 k (wrap64 (x5 + 1)) lots samples spread labs) R) :
  ∀ d i : Nat, ys.length - i = d → Ev (fun k => tensileref08_Fault.l3 k x5 (i : Int) lots samples spread labs f0 ys) (if (ys.drop i).all (fun n => withinB n (-1) 1000) = true then R else 1) := by
 intro d
 induction d with
 | zero =>
  intro i hd
  rw [drop_end ys i (by omega)]
  refine Ev.step (fun k => by simp only [tensileref08_Fault.l3]; rw [if_neg (by omega)]) ?_
  simpa using hR
 | succ d ih =>
  intro i hd
  have hlt : i < ys.length := by omega
  rw [rd_drop ys i hlt, List.all_cons]
  cases hb : withinB (rd ys (i : Int)) (-1) 1000
  ·refine Ev.step (fun k => by simp only [tensileref08_Fault.l3]; rw [if_pos (by omega), if_pos (by omega), In_eq, hb, Option.bind_some, if_neg (by decide)]) ?_
   simpa using Ev.now (1 : Int)
  ·refine Ev.step (fun k => by simp only [tensileref08_Fault.l3]; rw [if_pos (by omega), if_pos (by omega), In_eq, hb, Option.bind_some, if_pos rfl, wr1 i _ hlt hy]) ?_
   simpa using ih (i + 1) (by omega)
theorem Fault_l2 (hs : Sz lots samples labs) : ∀ d i : Nat, labs.length - i = d → Ev (fun k => tensileref08_Fault.l2 k (i : Int) lots samples spread labs) (if (labs.drop i).all (fun x => labB samples.length (m75 x)) = true then 0 else 1) := by
 intro d
 induction d with
 | zero =>
  intro i hd
  rw [drop_end labs i (by omega)]
  refine Ev.step (fun k => by simp only [tensileref08_Fault.l2]; rw [if_neg (by omega)]) ?_
  simpa using Ev.now (0 : Int)
 | succ d ih =>
  intro i hd
  have hlt : i < labs.length := by omega
  have hdr := rd62_drop labs i hlt
  rw [hdr, List.all_cons]
  have hy : (rd_T62 labs (i : Int)).f1.length ≤ 9223372036854775807 := hs.d _ (mem_drop0 hdr)
  have hn : labB samples.length (m75 (rd_T62 labs (i : Int))) = (withinB (rd_T62 labs (i : Int)).f0 0 100 && ((rd_T62 labs (i : Int)).f1.length == samples.length && (rd_T62 labs (i : Int)).f1.all fun n => withinB n (-1) 1000)) := rfl
  generalize hx : rd_T62 labs (i : Int) = x at hy hn ⊢
  rw [hn]
  have hnext := ih (i + 1) (by omega)
  rw [← wr1 i _ hlt hs.c] at hnext
  have h3 := Fault_l3 lots samples spread labs (f0 := x.f0) hy hnext x.f1.length 0 (by omega)
  rw [List.drop_zero] at h3
  cases hb : withinB x.f0 0 100
  ·refine Ev.step (fun k => by simp only [tensileref08_Fault.l2]; rw [if_pos (by omega), if_pos (by omega), hx, In_eq, hb, Option.bind_some, if_neg (by decide)]) ?_
   refine Ev.step (fun k => by simp only [tensileref08_Fault.j5]; rw [if_pos trivial]) ?_
   simpa using Ev.now (1 : Int)
  ·by_cases hl : x.f1.length = samples.length
   ·have hl2 : ((x.f1.length : Int) != (samples.length : Int)) = false := by rw [bne_eq_false_iff_eq]; omega
    have hl3 : (x.f1.length == samples.length) = true := by rw [beq_iff_eq]; exact hl
    refine Ev.step (fun k => by simp only [tensileref08_Fault.l2]; rw [if_pos (by omega), if_pos (by omega), hx, In_eq, hb, Option.bind_some, if_pos rfl, hl2]) ?_
    refine Ev.step (fun k => by simp only [tensileref08_Fault.j5]; rw [if_neg (by decide)]) ?_
    rw [hl3]
    simp only [Bool.true_and]
    have e : (if (x.f1.all fun n => withinB n (-1) 1000) = true then (if ((List.drop (i + 1) labs).all fun x => labB samples.length (m75 x)) = true then (0 : Int) else 1) else 1) = if ((x.f1.all fun n => withinB n (-1) 1000) && ((List.drop (i + 1) labs).all fun x => labB samples.length (m75 x))) = true then 0 else 1 := by
     cases (x.f1.all fun n => withinB n (-1) 1000) <;> simp
    rw [← e]
    exact h3
   ·have hl2 : ((x.f1.length : Int) != (samples.length : Int)) = true := by rw [bne_iff_ne]; omega
    have hl3 : (x.f1.length == samples.length) = false := by rw [beq_eq_false_iff_ne]; exact hl
    refine Ev.step (fun k => by simp only [tensileref08_Fault.l2]; rw [if_pos (by omega), if_pos (by omega), hx, In_eq, hb, Option.bind_some, if_pos rfl, hl2]) ?_
    refine Ev.step (fun k => by simp only [tensileref08_Fault.j5]; rw [if_pos trivial]) ?_
    rw [hl3]
    simpa using Ev.now (1 : Int)
theorem Fault_l1 (hs : Sz lots samples labs) : ∀ d i : Nat, samples.length - i = d → Ev (fun k => tensileref08_Fault.l1 k (i : Int) lots samples spread labs) (if (samples.drop i).all (sampB lots.length) = true then (if labs.all (fun x => labB samples.length (m75 x)) = true then 0 else 1) else 1) := by
 intro d
 induction d with
 | zero =>
  intro i hd
  rw [drop_end samples i (by omega)]
  refine Ev.step (fun k => by simp only [tensileref08_Fault.l1]; rw [if_neg (by omega)]) ?_
  have := Fault_l2 lots samples spread labs hs labs.length 0 (by omega)
  simpa using this
 | succ d ih =>
  intro i hd
  have hlt : i < samples.length := by omega
  have hl := hs.a
  rw [rd_drop samples i hlt, List.all_cons]
  have e : sampB lots.length (rd samples (i : Int)) = withinB (rd samples (i : Int)) 0 (wrap64 ((lots.length : Int) - 1)) := by rw [wr _ (by omega) (by omega)]; rfl
  rw [e]
  cases hb : withinB (rd samples (i : Int)) 0 (wrap64 ((lots.length : Int) - 1))
  ·refine Ev.step (fun k => by simp only [tensileref08_Fault.l1]; rw [if_pos (by omega), if_pos (by omega), In_eq, hb, Option.bind_some, if_neg (by decide)]) ?_
   simpa using Ev.now (1 : Int)
  ·refine Ev.step (fun k => by simp only [tensileref08_Fault.l1]; rw [if_pos (by omega), if_pos (by omega), In_eq, hb, Option.bind_some, if_pos rfl, wr1 i _ hlt hs.b]) ?_
   simpa using ih (i + 1) (by omega)
theorem Fault_l0 (hs : Sz lots samples labs) : ∀ d i : Nat, lots.length - i = d → Ev (fun k => tensileref08_Fault.l0 k (i : Int) lots samples spread labs) (if (lots.drop i).all (fun x => lotB x.f0 x.f1) = true then (if samples.all (sampB lots.length) = true then (if labs.all (fun x => labB samples.length (m75 x)) = true then 0 else 1) else 1) else 1) := by
 intro d
 induction d with
 | zero =>
  intro i hd
  rw [drop_end lots i (by omega)]
  refine Ev.step (fun k => by simp only [tensileref08_Fault.l0]; rw [if_neg (by omega)]) ?_
  have := Fault_l1 lots samples spread labs hs samples.length 0 (by omega)
  simpa using this
 | succ d ih =>
  intro i hd
  have hlt : i < lots.length := by omega
  rw [rd44_drop lots i hlt, List.all_cons]
  generalize hx : rd_T44 lots (i : Int) = x
  have e : lotB x.f0 x.f1 = (withinB x.f0 0 x.f1 && decide (x.f1 ≤ 1000)) := by unfold lotB withinB; rw [Bool.and_assoc]
  rw [e]
  cases hb : withinB x.f0 0 x.f1
  ·refine Ev.step (fun k => by simp only [tensileref08_Fault.l0]; rw [if_pos (by omega), if_pos (by omega), hx, In_eq, hb, Option.bind_some, if_neg (by decide)]) ?_
   simpa using Ev.now (1 : Int)
  ·by_cases h2 : x.f1 > 1000
   ·refine Ev.step (fun k => by simp only [tensileref08_Fault.l0]; rw [if_pos (by omega), if_pos (by omega), hx, In_eq, hb, Option.bind_some, if_pos rfl, if_pos h2]) ?_
    rw [decide_eq_false (by omega)]
    simpa using Ev.now (1 : Int)
   ·refine Ev.step (fun k => by simp only [tensileref08_Fault.l0]; rw [if_pos (by omega), if_pos (by omega), hx, In_eq, hb, Option.bind_some, if_pos rfl, if_neg h2, wr1 i _ hlt hs.a]) ?_
    rw [decide_eq_true (by omega)]
    simpa using ih (i + 1) (by omega)
theorem Fault_ev (hs : Sz lots samples labs) : Ev (fun k => tensileref08_Fault.f k lots samples spread labs) (checkRound (lots.map m46) samples spread (labs.map m75)) := by
 have h0 := Fault_l0 lots samples spread labs hs lots.length 0 (by omega)
 rw [List.drop_zero] at h0
 have hj : ∀ b : Bool, b = decide (4 < lots.length ∨ 8 < samples.length ∨ 6 < labs.length) → Ev (fun k => tensileref08_Fault.j0 k b lots samples spread labs) (checkRound (lots.map m46) samples spread (labs.map m75)) := by
  intro b hb
  cases b with
  | true =>
   have := of_decide_eq_true hb.symm
   refine Ev.step (fun k => by simp only [tensileref08_Fault.j0]; rw [if_pos trivial]) ?_
   have e : checkRound (lots.map m46) samples spread (labs.map m75) = 3 := by unfold checkRound; simp only [List.length_map]; rw [if_pos this]
   rw [e]
   exact Ev.now 3
  | false =>
   have hn := of_decide_eq_false hb.symm
   have e : checkRound (lots.map m46) samples spread (labs.map m75) = if lots.length = 0 ∨ (lots.all fun x => lotB x.f0 x.f1) = false ∨ (samples.all (sampB lots.length)) = false ∨ withinB spread 0 100 = false ∨ (labs.all fun x => labB samples.length (m75 x)) = false then 1 else 0 := by
    unfold checkRound
    simp only [List.length_map, List.all_map]
    rw [if_neg hn]
    rfl
   rw [e]
   by_cases hz : lots.length = 0
   ·refine Ev.step (fun k => by simp only [tensileref08_Fault.j0]; rw [if_neg (by decide), if_pos (by omega)]) ?_
    refine Ev.step (fun k => by simp only [tensileref08_Fault.j1]; rw [if_pos trivial]) ?_
    rw [if_pos (.inl hz)]
    exact Ev.now 1
   ·cases hw : withinB spread 0 100
    ·refine Ev.step (fun k => by simp only [tensileref08_Fault.j0]; rw [if_neg (by decide), if_neg (by omega), In_eq, hw, Option.bind_some, Bool.not_false]) ?_
     refine Ev.step (fun k => by simp only [tensileref08_Fault.j1]; rw [if_pos trivial]) ?_
     rw [if_pos (.inr (.inr (.inr (.inl rfl))))]
     exact Ev.now 1
    ·refine Ev.step (fun k => by simp only [tensileref08_Fault.j0]; rw [if_neg (by decide), if_neg (by omega), In_eq, hw, Option.bind_some, Bool.not_true]) ?_
     refine Ev.step (fun k => by simp only [tensileref08_Fault.j1]; rw [if_neg (by decide)]) ?_
     have e2 : (if (lots.all fun x => lotB x.f0 x.f1) = true then (if samples.all (sampB lots.length) = true then (if labs.all (fun x => labB samples.length (m75 x)) = true then (0 : Int) else 1) else 1) else 1) = if lots.length = 0 ∨ (lots.all fun x => lotB x.f0 x.f1) = false ∨ (samples.all (sampB lots.length)) = false ∨ true = false ∨ (labs.all fun x => labB samples.length (m75 x)) = false then 1 else 0 := by
      cases (lots.all fun x => lotB x.f0 x.f1) <;> cases samples.all (sampB lots.length) <;> cases (labs.all fun x => labB samples.length (m75 x)) <;> simp [hz]
     rw [← e2]
     exact h0
 unfold tensileref08_Fault.f
 by_cases h1 : 4 < lots.length
 ·refine Ev.congr (fun k => by rw [if_pos (by omega)]) (hj true (decide_eq_true (.inl h1)).symm)
 ·by_cases h2 : 8 < samples.length
  ·refine Ev.congr (fun k => by rw [if_neg (by omega), if_pos (by omega)]) (hj true (decide_eq_true (.inr (.inl h2))).symm)
  ·refine Ev.congr (fun k => by rw [if_neg (by omega), if_neg (by omega)]) (hj _ ?_)
   rw [Bool.eq_iff_iff, decide_eq_true_eq, decide_eq_true_eq]
   omega
end
end Go.Proofs.Ytcpbhklaffgokaa.Q
namespace Go.Proofs.Ytcpbhklaffgokaa.Q
open Go.RowKit Go.Proofs.YtcpbhklaffgokaaW.PrintWords Go.Proofs.YtcpbhklaffgokaaW.PrintLast Go.Proofs.YtcpbhklaffgokaaW.PrintMore
set_option linter.unusedVariables false
set_option linter.unusedSimpArgs false
theorem bool_ext {a b : Bool} (h : a = true ↔ b = true) : a = b := Bool.eq_iff_iff.2 h
theorem Has_ev (l : List Int) (x : Int) (hl : l.length ≤ 9223372036854775807) : Ev (fun k => tensileref08_Has.f k l x) (l.contains x) := by
 have key : ∀ d i : Nat, l.length - i = d → Ev (fun k => tensileref08_Has.l0 k l x (i : Int)) ((l.drop i).contains x) := by
  intro d
  induction d with
  | zero =>
   intro i hd
   rw [drop_end l i (by omega)]
   refine Ev.step (fun k => by simp only [tensileref08_Has.l0]; rw [if_neg (by omega)]) ?_
   exact Ev.now _
  | succ d ih =>
   intro i hd
   have hlt : i < l.length := by omega
   rw [rd_drop l i hlt]
   by_cases h : rd l (i : Int) = x
   ·refine Ev.step (fun k => by simp only [tensileref08_Has.l0]; rw [if_pos (by omega), if_pos (by omega), if_pos h]) ?_
    have : (rd l (i : Int) :: l.drop (i + 1)).contains x = true := by simp [h]
    rw [this]
    exact Ev.now _
   ·refine Ev.step (fun k => by simp only [tensileref08_Has.l0]; rw [if_pos (by omega), if_pos (by omega), if_neg h, wr1 i _ hlt hl]) ?_
    have : (rd l (i : Int) :: l.drop (i + 1)).contains x = (l.drop (i + 1)).contains x := by
     refine bool_ext ?_
     simp only [List.contains_iff_mem, List.mem_cons]
     constructor
     ·rintro (h' | h')
      ·exact absurd h'.symm h
      ·exact h'
     ·exact .inr
    rw [this]
    exact ih (i + 1) (by omega)
 have := key l.length 0 (by omega)
 rwa [List.drop_zero] at this
theorem risingK_split (n : Nat) (l : List Int) : ∀ m, risingK n l m = true ↔ ∀ j, j < m → okAt n l (j : Int) = true := by
 intro m
 induction m with
 | zero => simp [risingK]
 | succ m ih =>
  simp only [risingK, Bool.and_eq_true, ih]
  constructor
  ·rintro ⟨h1, h2⟩ j hj
   by_cases e : j = m
   ·subst e; exact h2
   ·exact h1 j (by omega)
  ·intro h
   exact ⟨fun j hj => h j (by omega), h m (by omega)⟩
theorem rising_iff (n : Nat) (l : List Int) : risingB n l = true ↔ ∀ j, j < l.length → okAt n l (j : Int) = true := risingK_split n l l.length
section
variable (lots : List S44) (samples : List Int) (spread : Int) (labs : List S62)
end
end Go.Proofs.Ytcpbhklaffgokaa.Q
namespace Go.Proofs.Ytcpbhklaffgokaa.Q
open Go.RowKit Go.Proofs.YtcpbhklaffgokaaW.PrintWords Go.Proofs.YtcpbhklaffgokaaW.PrintLast Go.Proofs.YtcpbhklaffgokaaW.PrintMore
set_option linter.unusedVariables false
set_option linter.unusedSimpArgs false
def leastF (lots : List S46) (samples : List Int) (spread : Int) (labs : List S75) : List Int × Int :=
 if checkRound lots samples spread labs = 0 then ((fewestF lots samples spread labs).getD 0 [], 0) else ([], checkRound lots samples spread labs)
def LPost (w : World) (r : List Int × Int) (e : Ending) (w' : World) : Prop :=
 ∃ v, e = .returned (.tuple #[v, .int .i64 r.2]) ∧ Kd.R (Kd.int .i64) 3 w' w.heap.size (fun _ => True) v r.1 ∧ Below w.heap.size w w'
theorem first_list {W : World} {base : Nat} {v : Value} {xs : List (List Int)} (h : Kd.R kll 23 W base (fun _ => True) v xs) (hp : 0 < xs.length) :
  ∃ g n c u, v = .slice (some ⟨g, 0, none⟩) n c ∧ 0 < n ∧ n = xs.length ∧ W.cell? ⟨g, 0, none⟩ = some u ∧ Kd.R (Kd.int .i64) 3 W base (fun _ => True) u (xs.getD 0 []) := by
 obtain ⟨g, cap, rfl, _⟩ := Kd.R_form h hp
 obtain ⟨c, hc, hM, hcell, _⟩ := Kd.R_elem h [] 0 (by omega) (by omega)
 obtain ⟨u, rfl, hu⟩ := hM
 refine ⟨g, _, cap, u, rfl, hp, rfl, ?_, ?_⟩
 ·have := hcell 0 u rfl
  simpa using this
 ·have := Kd.R_mono hu (fun _ _ => trivial)
  simpa using this
set_option maxHeartbeats 4000000 in
set_option maxRecDepth 100000 in
theorem Least_any (A0 : Option Addr) (c0 : Nat) (lots : List S46) (A1 : Option Addr) (c1 : Nat) (samples : List Int) (spread : Int) (A3 : Option Addr) (c3 : Nat) (labs : List S75) (w : World) (hr0 : Kd.C k46 w A0 lots.length lots) (hr1 : (Kd.int .i64).C w A1 samples.length samples) (hr3 : Kd.C k75 w A3 labs.length labs) (hne : checkRound lots samples spread labs = 0 → 0 < (fewestF lots samples spread labs).length) :
  Calls Try.prog 29 #[.agg #[.slice A0 lots.length c0, .slice A1 samples.length c1, .int .i64 spread, .slice A3 labs.length c3]] w (LPost w (leastF lots samples spread labs)) := by
 by_cases hc : checkRound lots samples spread labs = 0
 ·have HX : leastF lots samples spread labs = ((fewestF lots samples spread labs).getD 0 [], 0) := by unfold leastF; rw [if_pos hc]
  rw [HX]
  have HN := Aside0.mk (hne hc)
  have HC := Aside0.mk (judge_ok A0 c0 lots A1 c1 samples spread A3 c3 labs (w.alloc (.cells #[.slice A0 lots.length c0, .slice A1 samples.length c1, .int .i64 spread, .slice A3 labs.length c3] 34)) (Kd.C_alloc hr0 _) (Kd.C_alloc hr1 _) (Kd.C_alloc hr3 _) hc)
  have HB0 := Aside0.mk (below_alloc (Below.refl _ w) (.cells #[.slice A0 lots.length c0, .slice A1 samples.length c1, .int .i64 spread, .slice A3 labs.length c3] 34))
  have hok := Aside0.mk (roundOk_of_check hc)
  clear HX hr0 hr1 hr3 hc hne
  go_enter Try.func29, Try.ntmps29
  go_wp2_with (go_at_call 57; refine Aside0.out ?_)
  refine ⟨?_⟩
  refine HC.out.mono ?_
  clear HC
  rintro e w1 ⟨jb, mb, rfl, hj⟩
  have HF := Aside0.mk (fewest_any _ jb mb A0 c0 lots A1 c1 samples spread A3 c3 labs w1 hj hok.out)
  clear hj
  go_wp2_with (go_at_call 58; refine Aside0.out ?_)
  refine ⟨?_⟩
  refine HF.out.mono ?_
  clear HF
  rintro e w2 ⟨v, rfl, hj2, hr2⟩
  obtain ⟨g, n, c, u, rfl, hn, _, hcell, hu⟩ := first_list hr2 HN.out
  have HFin : Aside0 (LPost w ((fewestF lots samples spread labs).getD 0 [], 0) (.returned (.tuple #[u, .int .i64 0])) w2) := ⟨u, rfl, Kd.R_lower hu (by simp), below_step HB0.out hj2.hb⟩
  clear hr2 hj2 hu
  go_wp2
  go_ret2
  exact HFin.out
 ·have HX : leastF lots samples spread labs = ([], checkRound lots samples spread labs) := by unfold leastF; rw [if_neg hc]
  rw [HX]
  have HC := Aside0.mk (judge_bad A0 c0 lots A1 c1 samples spread A3 c3 labs (w.alloc (.cells #[.slice A0 lots.length c0, .slice A1 samples.length c1, .int .i64 spread, .slice A3 labs.length c3] 34)) (Kd.C_alloc hr0 _) (Kd.C_alloc hr1 _) (Kd.C_alloc hr3 _) hc)
  have HB0 := Aside0.mk (below_alloc (Below.refl _ w) (.cells #[.slice A0 lots.length c0, .slice A1 samples.length c1, .int .i64 spread, .slice A3 labs.length c3] 34))
  clear HX hr0 hr1 hr3 hne
  generalize checkRound lots samples spread labs = c at hc HC ⊢
  have hne : (c != 0) = true := bne_iff_ne.2 hc
  clear hc
  go_enter Try.func29, Try.ntmps29
  go_wp2_with (go_at_call 57; refine Aside0.out ?_)
  refine ⟨?_⟩
  refine HC.out.mono ?_
  clear HC
  rintro e w1 ⟨rfl, hb⟩
  replace HB0 := Aside0.mk (below_step HB0.out hb)
  clear hb
  go_wp2
  go_ret2
  exact ⟨_, rfl, Kd.R_nil _ _ _ _ _, HB0.out⟩
end Go.Proofs.Ytcpbhklaffgokaa.Q
namespace Go.Proofs.Ytcpbhklaffgokaa.Q
open Go.RowKit Go.Proofs.YtcpbhklaffgokaaW.PrintWords Go.Proofs.YtcpbhklaffgokaaW.PrintLast Go.Proofs.YtcpbhklaffgokaaW.PrintMore
set_option linter.unusedVariables false
set_option linter.unusedSimpArgs false
set_option maxHeartbeats 4000000 in
theorem index_any (v : Int) (xs : List Int) (A : Option Addr) (c : Nat) (w : World) (hr : Kd.C (Kd.int .i64) w A xs.length xs) (hlen : xs.length < 17592186044416) :
  Calls Try.prog 84 #[.slice A xs.length c, .int .i64 v] w (IdxPost (fun x => x == v) xs w) := by
 have HR := Aside0.mk hr
 clear hr
 go_enter Try.func84, Try.ntmps84
 go_wp2
 go_loopw [8] (fun i wr => ∃ k : Int, 0 ≤ k ∧ k ≤ xs.length ∧ i = .int .i64 k ∧ Aside0 (Below w.heap.size w wr) ∧ Aside0 ((xs.take k.toNat).any (fun x => x == v) = false)) (fun i _ => xs.length - (intOf i).toNat)
 case atStart => exact ⟨0, by omega, by omega, rfl, ⟨Below.refl _ _⟩, ⟨rfl⟩⟩
 case round =>
  obtain ⟨k, hk0, hk, rfl, HB, HQ⟩ := hrel
  by_cases hlt : k < xs.length
  ·obtain ⟨ad, hA, hx0⟩ := Kd.at_int HR.out k (by omega) (by omega)
   have hw0 : wr.cell? (ad.add k.toNat) = _ := (HB.out.cell (World.block_lt_of_cell? w _ hx0)).trans hx0
   obtain rfl := hA
   clear hx0
   by_cases hq : rd xs k = v
   ·have HQ1 : Aside0 ((fun x => x == v) (xs.getD k.toNat 0) = true) := ⟨by show (rd xs k == v) = true; rw [hq]; exact beq_self_eq_true v⟩
    have hv : (v == rd xs k) = true := by rw [hq]; exact beq_self_eq_true v
    clear hq
    go_wp2
    go_ret
    exact ⟨k, rfl, any_hit _ 0 xs k hk0 hlt HQ1.out, HB.out⟩
   ·have HQ1 : Aside0 ((fun x => x == v) (xs.getD k.toNat 0) = false) := ⟨by show (rd xs k == v) = false; rw [beq_eq_false_iff_ne]; exact hq⟩
    have hv : (v == rd xs k) = false := by rw [beq_eq_false_iff_ne]; exact fun h => hq h.symm
    clear hq
    go_wp2
    exact ⟨⟨k + 1, by omega, by omega, rfl, HB, ⟨any_snoc _ 0 xs k hk0 hlt HQ.out HQ1.out⟩⟩, by simp [intOf]; omega⟩
  ·go_wp2
   go_ret
   exact ⟨-1, rfl, any_none _ xs k (by omega) HQ.out, HB.out⟩
theorem contains_eq (v : Int) (xs : List Int) : (xs.any fun x => x == v) = xs.contains v := by
 rw [Bool.eq_iff_iff]
 simp
theorem contains_any (v : Int) (xs : List Int) (A : Option Addr) (c : Nat) (w : World) (hr : Kd.C (Kd.int .i64) w A xs.length xs) (hlen : xs.length < 17592186044416) :
  Calls Try.prog 64 #[.slice A xs.length c, .int .i64 v] w fun e w' => e = .returned (.bool (xs.contains v)) ∧ Below w.heap.size w w' := by
 have HC := Aside0.mk (index_any v xs A c w hr hlen)
 clear hr
 go_enter Try.func64, Try.ntmps64
 go_wp2_with (go_at_call 84; (with_reducible refine HC.out.mono ?_); rintro e w2 ⟨i, rfl, hi, hb⟩; replace hi := Aside0.mk hi; replace hb := Aside0.mk hb)
 go_ret
 exact ⟨by rw [← contains_eq, ← hi.out]; rfl, hb.out⟩
theorem has_any (v : Int) (bx : Nat) (xs : List Int) (A : Option Addr) (c : Nat) (w : World) (hbx : w.cell? ⟨bx, 0, none⟩ = some (.int .i64 v)) (hr : Kd.C (Kd.int .i64) w A xs.length xs) (hlen : xs.length < 17592186044416) :
  Calls Try.prog 63 #[.slice A xs.length c, .pointer (some ⟨bx, 0, none⟩)] w fun e w' => e = .returned (.bool (xs.contains v)) ∧ Below w.heap.size w w' := by
 have HC := Aside0.mk (contains_any v xs A c w hr hlen)
 generalize xs.contains v = b at HC ⊢
 clear hr
 go_enter Try.func63, Try.ntmps63
 go_wp2_with (go_at_call 64; (with_reducible refine HC.out.mono ?_); rintro e w2 ⟨rfl, hb⟩; replace hb := Aside0.mk hb)
 go_ret
 exact ⟨rfl, hb.out⟩
def convP (ls : List (List Int)) (k : Int) : Bool := ls.all fun l => l.contains k
def convL (ls : List (List Int)) : List Int := (ls.getD 0 []).filter (convP ls)
def convF (lots : List S46) (samples : List Int) (spread : Int) (labs : List S75) : List Int × Int :=
 if checkRound lots samples spread labs = 0 then (if convL (fewestF lots samples spread labs) = [] then ([], 7) else (convL (fewestF lots samples spread labs), 0)) else ([], checkRound lots samples spread labs)
theorem fromF_mem {can : List Int → Bool} {n : Nat} : ∀ {m : Nat} {l : List Int} {next : Nat} {y : List Int}, y ∈ fromF can n m l next → y.length = l.length + m := by
 intro m
 induction m with
 | zero =>
  intro l next y hy
  simp only [fromF] at hy
  split at hy
  ·rw [List.mem_singleton.1 hy]; rfl
  ·cases hy
 | succ m ih =>
  intro l next y hy
  simp only [fromF, List.mem_flatMap] at hy
  obtain ⟨k, _, hk⟩ := hy
  have := ih hk
  simp only [List.length_append, List.length_singleton] at this
  omega
theorem fewK_mem {can : List Int → Bool} {n : Nat} : ∀ {k : Nat} {y : List Int}, y ∈ fewK can n k → y.length < k := by
 intro k
 induction k with
 | zero => intro y hy; cases hy
 | succ k ih =>
  intro y hy
  simp only [fewK] at hy
  split at hy
  ·have := fromF_mem hy; simp at this; omega
  ·have := ih hy; omega
theorem filter_snoc (p : Int → Bool) (xs : List Int) (k : Int) (h0 : 0 ≤ k) (h : k < xs.length) : (xs.take (k + 1).toNat).filter p = (xs.take k.toNat).filter p ++ if p (rd xs k) = true then [rd xs k] else [] := by
 have h3 : k.toNat < xs.length := by omega
 have h4 : (k + 1).toNat = k.toNat + 1 := by omega
 rw [h4, List.take_succ_eq_append_getElem h3, List.filter_append]
 congr 1
 have : rd xs k = xs[k.toNat] := by simp [rd, List.getD_eq_getElem?_getD, List.getElem?_eq_getElem h3]
 rw [this]
 cases hp : p xs[k.toNat] <;> simp [hp]
set_option maxHeartbeats 4000000 in
set_option maxRecDepth 100000 in
theorem Convicted_bad (A0 : Option Addr) (c0 : Nat) (lots : List S46) (A1 : Option Addr) (c1 : Nat) (samples : List Int) (spread : Int) (A3 : Option Addr) (c3 : Nat) (labs : List S75) (w : World) (hr0 : Kd.C k46 w A0 lots.length lots) (hr1 : (Kd.int .i64).C w A1 samples.length samples) (hr3 : Kd.C k75 w A3 labs.length labs) (hc : checkRound lots samples spread labs ≠ 0) :
  Calls Try.prog 38 #[.agg #[.slice A0 lots.length c0, .slice A1 samples.length c1, .int .i64 spread, .slice A3 labs.length c3]] w (LPost w ([], checkRound lots samples spread labs)) := by
 have HC := Aside0.mk (judge_bad A0 c0 lots A1 c1 samples spread A3 c3 labs (w.alloc (.cells #[.slice A0 lots.length c0, .slice A1 samples.length c1, .int .i64 spread, .slice A3 labs.length c3] 34)) (Kd.C_alloc hr0 _) (Kd.C_alloc hr1 _) (Kd.C_alloc hr3 _) hc)
 have HB0 := Aside0.mk (below_alloc (Below.refl _ w) (.cells #[.slice A0 lots.length c0, .slice A1 samples.length c1, .int .i64 spread, .slice A3 labs.length c3] 34))
 clear hr0 hr1 hr3
 generalize checkRound lots samples spread labs = c at hc HC ⊢
 have hne : (c != 0) = true := bne_iff_ne.2 hc
 clear hc
 go_enter Try.func38, Try.ntmps38
 go_wp2_with (go_at_call 57; refine Aside0.out ?_)
 refine ⟨?_⟩
 refine HC.out.mono ?_
 clear HC
 rintro e w1 ⟨rfl, hb⟩
 replace HB0 := Aside0.mk (below_step HB0.out hb)
 clear hb
 go_wp2
 go_ret2
 exact ⟨_, rfl, Kd.R_nil _ _ _ _ _, HB0.out⟩
set_option maxHeartbeats 8000000 in
set_option maxRecDepth 100000 in
theorem Convicted_ok (A0 : Option Addr) (c0 : Nat) (lots : List S46) (A1 : Option Addr) (c1 : Nat) (samples : List Int) (spread : Int) (A3 : Option Addr) (c3 : Nat) (labs : List S75) (w : World) (hr0 : Kd.C k46 w A0 lots.length lots) (hr1 : (Kd.int .i64).C w A1 samples.length samples) (hr3 : Kd.C k75 w A3 labs.length labs) (hc : checkRound lots samples spread labs = 0) (hne : 0 < (fewestF lots samples spread labs).length) (r : List Int × Int) (hr : r = if convL (fewestF lots samples spread labs) = [] then ([], 7) else (convL (fewestF lots samples spread labs), 0)) :
  Calls Try.prog 38 #[.agg #[.slice A0 lots.length c0, .slice A1 samples.length c1, .int .i64 spread, .slice A3 labs.length c3]] w (LPost w r) := by
 have HRr := Aside0.mk hr
 have HC := Aside0.mk (judge_ok A0 c0 lots A1 c1 samples spread A3 c3 labs (w.alloc (.cells #[.slice A0 lots.length c0, .slice A1 samples.length c1, .int .i64 spread, .slice A3 labs.length c3] 34)) (Kd.C_alloc hr0 _) (Kd.C_alloc hr1 _) (Kd.C_alloc hr3 _) hc)
 have HB0 := Aside0.mk (below_alloc (Below.refl _ w) (.cells #[.slice A0 lots.length c0, .slice A1 samples.length c1, .int .i64 spread, .slice A3 labs.length c3] 34))
 have hok := Aside0.mk (roundOk_of_check hc)
 have HLen : (fewestF lots samples spread labs).length ≤ 46656 := fewK_length _ _ hok.out.b6 _ (by have := hok.out.b6; omega)
 have HNe := Aside0.mk hne
 have HLl : Aside0 (∀ y ∈ fewestF lots samples spread labs, y.length < 17592186044416) := ⟨fun y hy => by have := fewK_mem hy; have := hok.out.b6; omega⟩
 clear hr0 hr1 hr3 hc hr hne
 go_enter Try.func38, Try.ntmps38
 go_wp2_with (go_at_call 57; refine Aside0.out ?_)
 refine ⟨?_⟩
 refine HC.out.mono ?_
 clear HC
 rintro e w1 ⟨jb, mb, rfl, hj⟩
 have HF := Aside0.mk (fewest_any _ jb mb A0 c0 lots A1 c1 samples spread A3 c3 labs w1 hj hok.out)
 clear hj
 go_wp2_with (go_at_call 58; refine Aside0.out ?_)
 refine ⟨?_⟩
 refine HF.out.mono ?_
 clear HF
 rintro e w2 ⟨v, rfl, hj2, hr2⟩
 generalize fewestF lots samples spread labs = ls at hr2 HLen HNe HRr HLl ⊢
 obtain ⟨g, n, c, u, rfl, hn, hnl, hcell, hu⟩ := first_list hr2 HNe.out
 have HB := Aside0.mk (below_step HB0.out hj2.hb)
 have HLs := Aside0.mk (Kd.R_lower (Kd.R_mono (Kd.R_bound hr2) (fun q hq => hq.2.2.1)) (show w.heap.size ≤ _ by simp))
 have HU := Aside0.mk (Kd.R_lower (Kd.R_mono (Kd.R_bound hu) (fun q hq => hq.2.2.1)) (show w.heap.size ≤ _ by simp))
 generalize hl0 : ls.getD 0 [] = l0 at HU
 have HL0 := Aside0.mk hl0
 subst hnl
 obtain ⟨Au, nu, cu, rfl, hnu⟩ : ∃ A n c, u = .slice A n c ∧ n = l0.length := by obtain ⟨A, c, h⟩ := Kd.R_slice HU.out; exact ⟨A, _, c, h, rfl⟩
 subst hnu
 have hM : w.heap.size ≤ w2.heap.size := HB.out.size
 have hl0b : l0.length < 17592186044416 := by rw [← HL0.out, List.getD_eq_getElem?_getD, List.getElem?_eq_getElem HNe.out]; exact HLl.out _ (List.getElem_mem _)
 clear hr2 hj2 hu hl0 HB0
 go_wp2
 go_loopw [7, 24] (fun o q wr => ∃ (k : Int) (Ao : Option Addr) (no co : Nat), 0 ≤ k ∧ k ≤ l0.length ∧ q = .int .i64 k ∧ o = .slice Ao no co ∧ (no : Int) ≤ k ∧ Aside0 (no = ((l0.take k.toNat).filter (convP ls)).length) ∧ Aside0 (Below w2.heap.size w2 wr) ∧ Aside0 (Kd.R (Kd.int .i64) 3 wr w2.heap.size (fun _ => True) (.slice Ao no co) ((l0.take k.toNat).filter (convP ls))) ∧ Aside0 (Kd.R kll 23 wr w.heap.size (fun q => q < w2.heap.size) (.slice (some ⟨g, 0, none⟩) ls.length c) ls) ∧ Aside0 (Kd.R (Kd.int .i64) 3 wr w.heap.size (fun q => q < w2.heap.size) (.slice Au l0.length cu) l0)) (fun _ q _ => l0.length - (intOf q).toNat)
 case atStart => exact ⟨0, none, 0, 0, by omega, by omega, rfl, rfl, by omega, ⟨rfl⟩, ⟨Below.refl _ _⟩, ⟨Kd.R_nil _ _ _ _ _⟩, HLs, HU⟩
 case round =>
  obtain ⟨k, Ao, no, co, hk0, hk1, rfl, rfl, hno, HNo, HSz, HO, HLs, HU⟩ := hrel
  by_cases hlt : k < l0.length
  ·obtain ⟨ad, hA, hx0⟩ := Kd.at_int (Kd.R_reads' HU.out).2.2 k (by omega) (by omega)
   obtain rfl := hA
   have HT := Aside0.mk (filter_snoc (convP ls) l0 k hk0 hlt)
   have B9 := Aside0.mk (blk_new wr (.cells #[.int .i64 (rd l0 k)] 3))
   have HOa := Aside0.mk (Kd.R_below HO.out (below_alloc (Below.refl _ wr) (.cells #[.int .i64 (rd l0 k)] 3)))
   have HLa := Aside0.mk (Kd.R_below HLs.out (below_alloc (Below.refl _ wr) (.cells #[.int .i64 (rd l0 k)] 3)))
   have HUa := Aside0.mk (Kd.R_below HU.out (below_alloc (Below.refl _ wr) (.cells #[.int .i64 (rd l0 k)] 3)))
   have HSa := Aside0.mk (below_alloc HSz.out (.cells #[.int .i64 (rd l0 k)] 3))
   go_wp2_with (go_at_call 62; refine Aside0.out ?_)
   refine ⟨?_⟩
   clear hx0
   generalize wr.alloc (.cells #[.int .i64 (rd l0 k)] 3) = w3 at B9 HOa HLa HUa HSa ⊢
   generalize wr.heap.size = g9 at B9 ⊢
   generalize hx : rd l0 k = x at HT B9 ⊢
   have HALL : Calls Try.prog 62 #[.slice (some ⟨g, 0, none⟩) ls.length c, .func (.func 63) #[] #[.pointer (some ⟨g9, 0, none⟩)]] w3 fun e w' => e = .returned (.bool (convP ls x)) ∧ Below w3.heap.size w3 w' :=
    all23_63 (rb := g9) (fun l => l.contains x) ls (some ⟨g, 0, none⟩) c w3 (Kd.R_reads' HLa.out).2.2 (by omega) (fun y hy w4 hw4 A1 c1 hc1 hC1 => has_any x g9 y A1 c1 w4 ((blk_cell (blk_below B9.out hw4) 0).trans rfl) hC1 (HLl.out y hy))
   cases hp : convP ls x
   all_goals
    rw [hp] at HALL
    refine HALL.mono ?_
    clear HALL
    rintro e w4 ⟨rfl, hb⟩
    have HO4 := Aside0.mk (Kd.R_below HOa.out hb)
    have HL4 := Aside0.mk (Kd.R_below HLa.out hb)
    have HU4 := Aside0.mk (Kd.R_below HUa.out hb)
    have HS4 := Aside0.mk (below_step HSa.out hb)
    have B94 := Aside0.mk (blk_below B9.out hb)
    clear hb HOa HLa HUa HSa B9 HO HLs HU
   ·have HT2 : Aside0 ((l0.take (k + 1).toNat).filter (convP ls) = (l0.take k.toNat).filter (convP ls)) := ⟨by rw [HT.out, hp, if_neg Bool.false_ne_true, List.append_nil]⟩
    clear hp
    go_wp2
    exact ⟨⟨k + 1, Ao, no, co, by omega, by omega, rfl, rfl, by omega, ⟨by rw [HT2.out]; exact HNo.out⟩, HS4, ⟨by rw [HT2.out]; exact HO4.out⟩, HL4, HU4⟩, by simp only [intOf]; omega⟩
   ·have HT2 : Aside0 ((l0.take (k + 1).toNat).filter (convP ls) = (l0.take k.toNat).filter (convP ls) ++ [x]) := ⟨by rw [HT.out, hp, if_pos rfl]⟩
    clear hp
    have e9 := (blk_cell B94.out 0).trans rfl
    go_wp2_with (((with_reducible refine gate_builtin (b := .append) (xs := #[.tmp 31, .tmp 33]) rfl ?_); at_builtin; refine Aside0.out ?_))
    refine ⟨?_⟩
    have hln : ((l0.take k.toNat).filter (convP ls)).length = no := HNo.out.symm
    refine Kd.R_append (Kd.int .i64) (w0 := w2) w2.heap.size rfl (.tmp 31) (.tmp 33) 23 3 (.int .i64 0) 8 rfl Try.underlying23 info3 rfl (by decide) (by omega) (.slice Ao no co) ((l0.take k.toNat).filter (convP ls)) x [.int .i64 x] (fun _ => True) (fun _ => False) rfl rfl rfl (fun _ h => h.elim) (fun _ _ => trivial) HO4.out HS4.out HS4.out.size (by omega) ?_
    intro v5 w5 ho5 hb5 hg5 hat5
    obtain ⟨A5, n5, c5, hv5⟩ : ∃ A n c, v5 = .slice A n c ∧ n = ((l0.take k.toNat).filter (convP ls) ++ [x]).length := by obtain ⟨A, c, h⟩ := Kd.R_slice ho5; exact ⟨A, _, c, h, rfl⟩
    obtain ⟨rfl, hn5⟩ := hv5
    have hn6 : n5 = no + 1 := by rw [hn5, List.length_append, hln]; rfl
    subst hn6
    have HO5 := Aside0.mk ho5
    have HS5 := Aside0.mk hb5
    have HL5 := Aside0.mk (Kd.R_grown HL4.out hg5 (fun q hq he => by have := Kd.R_base HO4.out q he.symm; omega))
    have HU5 := Aside0.mk (Kd.R_grown HU4.out hg5 (fun q hq he => by have := Kd.R_base HO4.out q he.symm; omega))
    replace hn5 := Aside0.mk hn5
    clear ho5 hb5 hg5 hat5 hln HO4 HS4 HL4 HU4 e9
    go_wp2
    exact ⟨⟨k + 1, A5, no + 1, c5, by omega, by omega, rfl, rfl, by omega, ⟨by rw [HT2.out]; exact hn5.out⟩, HS5, ⟨by rw [HT2.out]; exact HO5.out⟩, HL5, HU5⟩, by simp only [intOf]; omega⟩
  ·have hk : k = l0.length := by omega
   have HT : Aside0 ((l0.take k.toNat).filter (convP ls) = convL ls) := ⟨by rw [hk, Int.toNat_natCast, List.take_length]; unfold convL; rw [HL0.out]⟩
   rw [HT.out] at HO HNo
   have HFB := Aside0.mk (below_step HB.out HSz.out)
   by_cases hz : no = 0
   ·have hnil : convL ls = [] := List.eq_nil_of_length_eq_zero (by have := HNo.out; omega)
    obtain rfl : r = ([], 7) := by rw [HRr.out, if_pos hnil]
    have hz0 : ((no : Int) == 0) = true := by rw [beq_iff_eq]; omega
    clear hz hnil hk
    go_wp2
    go_ret2
    exact ⟨_, rfl, Kd.R_nil _ _ _ _ _, HFB.out⟩
   ·have hnil : convL ls ≠ [] := fun e => by have := HNo.out; rw [e] at this; simp at this; omega
    obtain rfl : r = (convL ls, 0) := by rw [HRr.out, if_neg hnil]
    have hz0 : ((no : Int) == 0) = false := by rw [beq_eq_false_iff_ne]; omega
    clear hz hnil hk
    go_wp2
    go_ret2
    exact ⟨_, rfl, Kd.R_lower HO.out hM, HFB.out⟩
theorem Convicted_any (A0 : Option Addr) (c0 : Nat) (lots : List S46) (A1 : Option Addr) (c1 : Nat) (samples : List Int) (spread : Int) (A3 : Option Addr) (c3 : Nat) (labs : List S75) (w : World) (hr0 : Kd.C k46 w A0 lots.length lots) (hr1 : (Kd.int .i64).C w A1 samples.length samples) (hr3 : Kd.C k75 w A3 labs.length labs) (hne : checkRound lots samples spread labs = 0 → 0 < (fewestF lots samples spread labs).length) :
  Calls Try.prog 38 #[.agg #[.slice A0 lots.length c0, .slice A1 samples.length c1, .int .i64 spread, .slice A3 labs.length c3]] w (LPost w (convF lots samples spread labs)) := by
 by_cases hc : checkRound lots samples spread labs = 0
 ·unfold convF
  rw [if_pos hc]
  exact Convicted_ok _ _ _ _ _ _ _ _ _ _ w hr0 hr1 hr3 hc (hne hc) _ rfl
 ·unfold convF
  rw [if_neg hc]
  exact Convicted_bad _ _ _ _ _ _ _ _ _ _ w hr0 hr1 hr3 hc
end Go.Proofs.Ytcpbhklaffgokaa.Q
namespace Go.Proofs.Ytcpbhklaffgokaa.Q
open Go.RowKit Go.Proofs.YtcpbhklaffgokaaW.PrintWords Go.Proofs.YtcpbhklaffgokaaW.PrintLast Go.Proofs.YtcpbhklaffgokaaW.PrintMore
set_option linter.unusedVariables false
set_option linter.unusedSimpArgs false
theorem C_blk {α : Type} {d : Kd α} {W : World} {g : Nat} {cs : Array Value} {t : TypeId} {xs : List α} (hb : W.heap[g]? = some (.cells cs t (0, 0))) (hl : xs.length ≤ 1000) (f : Nat → List Value)
  (hf : ∀ j p, xs[j]? = some p → (f j).length = d.sz ∧ d.K W p (f j) ∧ ∀ i u, (f j)[i]? = some u → cs[j * d.sz + i]? = some u) : d.C W (some ⟨g, 0, none⟩) xs.length xs := by
 refine ⟨rfl, by omega, fun _ => ⟨_, rfl, fun j p hj => ?_⟩⟩
 obtain ⟨h1, h2, h3⟩ := hf j p hj
 refine ⟨f j, h1, h2, fun i u hu => ?_⟩
 have := blk_cell hb (j * d.sz + i)
 rw [show (⟨g, 0, none⟩ : Addr).add (j * d.sz + i) = ⟨g, j * d.sz + i, none⟩ by unfold Addr.add; split <;> simp_all]
 rw [this]
 exact h3 i u hu
theorem C_ints {W : World} {g : Nat} {t : TypeId} {xs : List Int} (hb : W.heap[g]? = some (.cells (encs (Value.int .i64) xs).toArray t (0, 0))) (hl : xs.length ≤ 1000) : (Kd.int .i64).C W (some ⟨g, 0, none⟩) xs.length xs := by
 refine C_blk hb hl (fun j => [.int .i64 (xs.getD j 0)]) (fun j p hj => ?_)
 have hp : xs.getD j 0 = p := by rw [List.getD_eq_getElem?_getD, hj]; rfl
 rw [hp]
 refine ⟨rfl, rfl, fun i u hu => ?_⟩
 match i, hu with
 | 0, hu =>
  simp at hu
  subst hu
  show (encs (Value.int .i64) xs).toArray[j * 1 + 0]? = _
  simp [encs, hj]
def trialLots : List S46 := [{ f0 := 100, f1 := 140 }, { f0 := 200, f1 := 260 }]
def trialSamples : List Int := [0, 0, 1]
def trialLabs : List S75 := [{ f0 := 3, f1 := [120, 122, 230] }, { f0 := 3, f1 := [124, 121, 234] }, { f0 := 2, f1 := [131, 133, 240] }, { f0 := 5, f1 := [-1, 118, 229] }]
set_option maxRecDepth 100000 in
theorem trial_pure : checkRound trialLots trialSamples 2 trialLabs = 0 ∧ explainsF trialLots trialSamples 2 trialLabs [] = (false, 0) ∧ explainsF trialLots trialSamples 2 trialLabs [2] = (true, 0) ∧ spansR trialLots trialSamples 2 trialLabs [2] = ([{ f0 := 121, f1 := 123 }, { f0 := 119, f1 := 123 }, { f0 := 231, f1 := 233 }], 0) ∧ leastF trialLots trialSamples 2 trialLabs = ([2], 0) := by
 refine ⟨?_, ?_, ?_, ?_, ?_⟩ <;> kernel_rfl
theorem blk_new' {w : World} {o : Obj} {n : Nat} (h : w.heap.size = n) : (w.alloc o).heap[n]? = some o := h ▸ blk_new w o
theorem C_46 {W : World} {g : Nat} {t : TypeId} {xs : List S46} (hb : W.heap[g]? = some (.cells (xs.flatMap fun x => [.int .i64 x.f0, .int .i64 x.f1]).toArray t (0, 0))) (hl : xs.length ≤ 1000) : Kd.C k46 W (some ⟨g, 0, none⟩) xs.length xs := by
 refine C_blk hb hl (fun j => [.int .i64 (xs.getD j z46).f0, .int .i64 (xs.getD j z46).f1]) (fun j p hj => ?_)
 have hp : xs.getD j z46 = p := by rw [List.getD_eq_getElem?_getD, hj]; rfl
 rw [hp]
 refine ⟨rfl, k46_mk _ _, fun i u hu => ?_⟩
 have key : ∀ (ys : List S46) (j : Nat), ys[j]? = some p → ∀ i u, ([.int .i64 p.f0, .int .i64 p.f1] : List Value)[i]? = some u → (ys.flatMap fun x => [Value.int .i64 x.f0, .int .i64 x.f1])[j * 2 + i]? = some u := by
  intro ys
  induction ys with
  | nil => intro j h; cases h
  | cons y ys ih =>
   intro j h i u hu
   cases j with
   | zero =>
    simp at h
    subst h
    match i, hu with
    | 0, hu => simpa using hu
    | 1, hu => simpa using hu
   | succ j =>
    simp at h
    have := ih j h i u hu
    simp only [List.flatMap_cons]
    rw [show (j + 1) * 2 + i = (j * 2 + i) + 2 by omega]
    simpa using this
 show (xs.flatMap fun x => [Value.int .i64 x.f0, .int .i64 x.f1]).toArray[j * 2 + i]? = some u
 simpa using key xs j hj i u hu
set_option maxRecDepth 100000 in
theorem trial_shifts : shiftsF trialLots trialSamples 2 trialLabs 2 = ({ f0 := 8, f1 := 11 }, 0) := by kernel_rfl
def TrialPost (w : World) (e : Ending) (w' : World) : Prop := ∃ (A0 A1 A3 : Option Addr) (c0 c1 c3 : Nat), e = .returned (.agg #[.slice A0 2 c0, .slice A1 3 c1, .int .i64 2, .slice A3 4 c3]) ∧ Kd.C k46 w' A0 2 trialLots ∧ (Kd.int .i64).C w' A1 3 trialSamples ∧ Kd.C k75 w' A3 4 trialLabs ∧ Below w.heap.size w w'
set_option maxHeartbeats 4000000 in
set_option maxRecDepth 100000 in
theorem trial_any (w : World) : Calls Try.prog 40 #[] w (TrialPost w) := by
 go_enter Try.func40, Try.ntmps40
 go_wp2
 refine bodyPost_ret (results_single rfl (.cell w.heap.size 34 _ (0, 0) _ rfl (by repeat (first | exact blk_new' (by simp) | refine blk_alloc ?_ _)) rfl rfl rfl .nil)) rfl ?_
 refine ⟨_, _, _, _, _, _, rfl, ?_, ?_, ?_, ?_⟩
 ·exact C_46 (xs := trialLots) (by repeat (first | exact blk_new' (by simp) | refine blk_alloc ?_ _)) (by decide)
 ·exact C_ints (xs := trialSamples) (by repeat (first | exact blk_new' (by simp) | refine blk_alloc ?_ _)) (by decide)
 ·refine C_blk (xs := trialLabs) (t := 75) (by repeat (first | exact blk_new' (by simp) | refine blk_alloc ?_ _)) (by decide) (fun j => [.int .i64 (trialLabs.getD j z75).f0, .slice (some ⟨w.heap.size + 3 + j, 0, none⟩) 3 3]) (fun j p hj => ?_)
  match j, hj with
  | 0, hj =>
   cases hj
   exact ⟨rfl, k75_mk _ _ (by decide) (C_ints (xs := [120, 122, 230]) (by repeat (first | exact blk_new' (by simp) | refine blk_alloc ?_ _)) (by decide)), fun i u hu => by match i, hu with | 0, hu => exact hu | 1, hu => exact hu⟩
  | 1, hj =>
   cases hj
   exact ⟨rfl, k75_mk _ _ (by decide) (C_ints (xs := [124, 121, 234]) (by repeat (first | exact blk_new' (by simp) | refine blk_alloc ?_ _)) (by decide)), fun i u hu => by match i, hu with | 0, hu => exact hu | 1, hu => exact hu⟩
  | 2, hj =>
   cases hj
   exact ⟨rfl, k75_mk _ _ (by decide) (C_ints (xs := [131, 133, 240]) (by repeat (first | exact blk_new' (by simp) | refine blk_alloc ?_ _)) (by decide)), fun i u hu => by match i, hu with | 0, hu => exact hu | 1, hu => exact hu⟩
  | 3, hj =>
   cases hj
   exact ⟨rfl, k75_mk _ _ (by decide) (C_ints (xs := [-1, 118, 229]) (by repeat (first | exact blk_new' (by simp) | refine blk_alloc ?_ _)) (by decide)), fun i u hu => by match i, hu with | 0, hu => exact hu | 1, hu => exact hu⟩
 ·repeat (first | exact Below.refl _ _ | refine below_alloc ?_ _)
end Go.Proofs.Ytcpbhklaffgokaa.Q
namespace Go.Proofs.Ytcpbhklaffgokaa.Q
open Go.RowKit Go.Proofs.YtcpbhklaffgokaaW.PrintWords Go.Proofs.YtcpbhklaffgokaaW.PrintLast Go.Proofs.YtcpbhklaffgokaaW.PrintMore
attribute [local go_sem] max2_int min2_int max_two min_two max_three min_three max_four min_four
set_option linter.unusedVariables false
set_option linter.unusedSimpArgs false
mutual
def tensilelaw08_Thin.l0 : Nat → Int → List (S44) → List Int → Int → List (S62) → Option (Bool)
 | 0, _, _, _, _, _ => none
 | k + 1, x3, x115000, x115001, x115002, x115003 => if x3 < (x115003.length : Int) then (tensilelaw08_Thin.j1 k x3 (decide (x3 < 9)) x115000 x115001 x115002 x115003) else (tensilelaw08_Thin.j1 k x3 false x115000 x115001 x115002 x115003)
def tensilelaw08_Thin.j1 : Nat → Int → Bool → List (S44) → List Int → Int → List (S62) → Option (Bool)
 | 0, _, _, _, _, _, _ => none
 | k + 1, x3, x12, x115000, x115001, x115002, x115003 => if x12 = true then (if 0 ≤ x3 then (if x3 < (x115003.length : Int) then (if (((rd_T62 x115003 x3).f1).length : Int) > 10 then (some false) else (tensilelaw08_Thin.l0 k (wrap64 (x3 + 1)) x115000 x115001 x115002 x115003)) else (none)) else (none)) else (if (x115000.length : Int) ≤ 6 then (if (x115001.length : Int) ≤ 10 then (some (decide ((x115003.length : Int) ≤ 8))) else (some false)) else (some false))
end
def tensilelaw08_Thin.f (k : Nat) (l0_0 : List (S44)) (l0_1 : List Int) (a0_2 : Int) (l0_3 : List (S62)) : Option (Bool) := tensilelaw08_Thin.l0 k 0 l0_0 l0_1 a0_2 l0_3
set_option maxHeartbeats 8000000 in
set_option maxRecDepth 100000 in
theorem tensilelaw08_Thin.calls (k : Nat) (A0_0 : Option Addr) (c0_0 : Nat) (l0_0 : List (S44)) (A0_1 : Option Addr) (c0_1 : Nat) (l0_1 : List Int) (a0_2 : Int) (A0_3 : Option Addr) (c0_3 : Nat) (l0_3 : List (S62)) (r : Bool) (w : World) (hr0_0 : Kd.C k44 w A0_0 l0_0.length l0_0) (hc0_0 : l0_0.length ≤ c0_0) (hr0_1 : Kd.C (Kd.int .i64) w A0_1 l0_1.length l0_1) (hc0_1 : l0_1.length ≤ c0_1) (hr0_3 : Kd.C k62 w A0_3 l0_3.length l0_3) (hc0_3 : l0_3.length ≤ c0_3) (h : tensilelaw08_Thin.f k l0_0 l0_1 a0_2 l0_3 = some r) :
  Calls Try.prog 42 #[.agg #[.slice A0_0 l0_0.length c0_0, .slice A0_1 l0_1.length c0_1, .int .i64 a0_2, .slice A0_3 l0_3.length c0_3]] w fun e w' => e = .returned (.bool r) ∧ Below w.heap.size w w' := by
 have hu26 := Try.underlying26
 have HR0_0 := Aside0.mk hr0_0
 have HC0_0 := Aside0.mk hc0_0
 clear hr0_0 hc0_0
 have HR0_1 := Aside0.mk hr0_1
 have HC0_1 := Aside0.mk hc0_1
 clear hr0_1 hc0_1
 have HR0_3 := Aside0.mk hr0_3
 have HC0_3 := Aside0.mk hc0_3
 clear hr0_3 hc0_3
 have HB := Aside0.mk (Below.refl w.heap.size w)
 have H : (tensilelaw08_Thin.l0 k 0 l0_0 l0_1 a0_2 l0_3) = some r := h
 clear h
 have H' := Aside0.mk H
 clear H
 go_enter Try.func42, Try.ntmps42
 go_wp2_with (first | ((with_reducible refine gate_dst (N := 1) rfl ?_); (try (refine gate_guard (by rfl) ?_; dsimp only)); refine box_event ?hg (N := 1) ?hd (cs := #[.slice A0_0 l0_0.length c0_0, .slice A0_1 l0_1.length c0_1, .int .i64 a0_2, .slice A0_3 l0_3.length c0_3]) (t := 26) ?hr ?_; (case hd => rfl); (case hg => rfl); (case hr => first | (go_simp; done) | (go_simp; rfl)); intro gb114 hg w2 hbox hb; have n0_ := Aside0.mk (below_step (by repeat (first | (with_reducible first | exact HB.out | apply below_alloc | apply pw_below_drewN | apply below_drew1) | exact HB.out)) hb); have n1_ := Aside0.mk (hbox); have n2_ := Aside0.mk ((by rw [hg]; exact (below_size (by repeat (first | (with_reducible first | exact HB.out | apply below_alloc | apply pw_below_drewN | apply below_drew1) | exact HB.out))) : w.heap.size ≤ gb114)); have n3_ := Aside0.mk ((by rw [hg]; exact (below_size (by repeat (first | (with_reducible first | exact HB.out | apply below_alloc | apply pw_below_drewN | apply below_drew1) | exact HB.out))) : w.heap.size ≤ gb114)); clear HB; have HB := n0_; have BK114 := n1_; have GW114 := n2_; have GE114 := n3_; clear n0_ n1_ n2_ n3_; clear hb hbox hg))
 go_loopg [3] k (fun kq v3 w' => ∃ (x3_1 : Int), v3 = .int .i64 x3_1 ∧ Aside0 (tensilelaw08_Thin.l0 kq x3_1 l0_0 l0_1 a0_2 l0_3 = some r) ∧ Aside0 (kq ≤ k) ∧ Aside0 (w'.heap[gb114]? = some (.cells #[(.slice A0_0 l0_0.length c0_0), (.slice A0_1 l0_1.length c0_1), .int .i64 a0_2, (.slice A0_3 l0_3.length c0_3)] 26 (0, 0))) ∧ Aside0 (Below w.heap.size w w'))
 case atStart => exact ⟨(0), (by first | rfl | (simp; done) | (simp [*]; done)), H', ⟨Nat.le_refl _⟩, ⟨by (with_reducible repeat (first | refine blk_drewN ?_ _ | refine blk_drew ?_ | refine blk_alloc ?_ _)); exact BK114.out⟩, ⟨by repeat (first | (with_reducible first | exact HB.out | apply below_alloc | apply pw_below_drewN | apply below_drew1 | refine below_set ?_ GE114.out) | exact HB.out)⟩⟩
 case round =>
  clear H'
  try clear p2
  obtain ⟨x3_1, rfl, HA, HK1, BK114, HB⟩ := hrel
  cases gk with
  | zero => exact absurd HA.out (by simp [tensilelaw08_Thin.l0])
  | succ k1 =>
   have H := HA.out
   clear HA
   simp only [tensilelaw08_Thin.l0] at H
   have HC3 := Aside0.mk H
   clear H
   go_upto_region 2 with (fail)
   go_cut [12] (fun v12 wc => ∃ (kq : Nat) (x12_2 : Bool), v12 = .bool x12_2 ∧ Aside0 (tensilelaw08_Thin.j1 kq x3_1 x12_2 l0_0 l0_1 a0_2 l0_3 = some r) ∧ Aside0 (kq ≤ k1) ∧ Aside0 (wc.heap[gb114]? = some (.cells #[(.slice A0_0 l0_0.length c0_0), (.slice A0_1 l0_1.length c0_1), .int .i64 a0_2, (.slice A0_3 l0_3.length c0_3)] 26 (0, 0))) ∧ Aside0 (Below w.heap.size w wc))
   case first =>
    have H := HC3.out
    clear HC3
    by_cases c4 : x3_1 < (l0_3.length : Int)
    ·rw [if_pos c4] at H
     have c4b0 : decide (x3_1 < (l0_3.length : Int)) = true := decide_eq_true c4
     clear c4
     (first | rw [c4b0] | (simp only [i64_w, i32_w]; rw [c4b0]) | skip)
     have H' := Aside0.mk H
     clear H
     have hcz5_0 : wr.cell? ⟨gb114, 0, none⟩ = some (.slice A0_0 l0_0.length c0_0) := (blk_cell BK114.out 0).trans rfl
     have hcz5_1 : wr.cell? ⟨gb114, 1, none⟩ = some (.slice A0_1 l0_1.length c0_1) := (blk_cell BK114.out 1).trans rfl
     have hcz5_2 : wr.cell? ⟨gb114, 2, none⟩ = some (.int .i64 a0_2) := (blk_cell BK114.out 2).trans rfl
     have hcz5_3 : wr.cell? ⟨gb114, 3, none⟩ = some (.slice A0_3 l0_3.length c0_3) := (blk_cell BK114.out 3).trans rfl
     have hfz5_0 := blk_frozen BK114.out 0
     have hfz5_1 := blk_frozen BK114.out 1
     have hfz5_2 := blk_frozen BK114.out 2
     have hfz5_3 := blk_frozen BK114.out 3
     go_wp2
     go_meet
     case rel => exact ⟨_, (decide (x3_1 < 9)), (by first | rfl | (simp; done) | (simp [*]; done)), H', ⟨by have := HK1.out; first | omega | exact Nat.le_refl _⟩, ⟨by (with_reducible repeat (first | refine blk_drewN ?_ _ | refine blk_drew ?_ | refine blk_alloc ?_ _)); exact BK114.out⟩, ⟨by repeat (first | (with_reducible first | exact HB.out | apply below_alloc | apply pw_below_drewN | apply below_drew1 | refine below_set ?_ GE114.out) | exact HB.out)⟩⟩
    ·rw [if_neg c4] at H
     have c4b0 : decide (x3_1 < (l0_3.length : Int)) = false := decide_eq_false c4
     clear c4
     (first | rw [c4b0] | (simp only [i64_w, i32_w]; rw [c4b0]) | skip)
     have H' := Aside0.mk H
     clear H
     have hcz6_0 : wr.cell? ⟨gb114, 0, none⟩ = some (.slice A0_0 l0_0.length c0_0) := (blk_cell BK114.out 0).trans rfl
     have hcz6_1 : wr.cell? ⟨gb114, 1, none⟩ = some (.slice A0_1 l0_1.length c0_1) := (blk_cell BK114.out 1).trans rfl
     have hcz6_2 : wr.cell? ⟨gb114, 2, none⟩ = some (.int .i64 a0_2) := (blk_cell BK114.out 2).trans rfl
     have hcz6_3 : wr.cell? ⟨gb114, 3, none⟩ = some (.slice A0_3 l0_3.length c0_3) := (blk_cell BK114.out 3).trans rfl
     have hfz6_0 := blk_frozen BK114.out 0
     have hfz6_1 := blk_frozen BK114.out 1
     have hfz6_2 := blk_frozen BK114.out 2
     have hfz6_3 := blk_frozen BK114.out 3
     go_wp2
     go_meet
     case rel => exact ⟨_, (false), (by first | rfl | (simp; done) | (simp [*]; done)), H', ⟨by have := HK1.out; first | omega | exact Nat.le_refl _⟩, ⟨by (with_reducible repeat (first | refine blk_drewN ?_ _ | refine blk_drew ?_ | refine blk_alloc ?_ _)); exact BK114.out⟩, ⟨by repeat (first | (with_reducible first | exact HB.out | apply below_alloc | apply pw_below_drewN | apply below_drew1 | refine below_set ?_ GE114.out) | exact HB.out)⟩⟩
   case rest =>
    clear HC3
    try clear p2
    try clear c4
    try clear c4b0
    try clear hcz5_0
    try clear hcz5_1
    try clear hcz5_2
    try clear hcz5_3
    try clear hcz6_0
    try clear hcz6_1
    try clear hcz6_2
    try clear hcz6_3
    try clear hfz5_0
    try clear hfz5_1
    try clear hfz5_2
    try clear hfz5_3
    try clear hfz6_0
    try clear hfz6_1
    try clear hfz6_2
    try clear hfz6_3
    try clear p2
    obtain ⟨kq, x12_2, rfl, HA, HJ2, BK114, HB⟩ := hcut
    cases kq with
    | zero => exact absurd HA.out (by simp [tensilelaw08_Thin.j1])
    | succ kj2 =>
     have H := HA.out
     clear HA
     simp only [tensilelaw08_Thin.j1] at H
     by_cases c7 : x12_2 = true
     ·subst c7
      have H1 : (if 0 ≤ x3_1 then (if x3_1 < (l0_3.length : Int) then (if (((rd_T62 l0_3 x3_1).f1).length : Int) > 10 then (some false) else (tensilelaw08_Thin.l0 kj2 (wrap64 (x3_1 + 1)) l0_0 l0_1 a0_2 l0_3)) else (none)) else (none)) = some r := by rw [if_pos rfl] at H; exact H
      clear H
      have H := H1
      clear H1
      by_cases c8 : 0 ≤ x3_1
      ·rw [if_pos c8] at H
       have c8b0 : decide (0 ≤ x3_1) = true := decide_eq_true c8
       clear c8
       by_cases c9 : x3_1 < (l0_3.length : Int)
       ·rw [if_pos c9] at H
        have c9b0 : decide (x3_1 < (l0_3.length : Int)) = true := decide_eq_true c9
        clear c9
        by_cases c10 : (((rd_T62 l0_3 x3_1).f1).length : Int) > 10
        ·rw [if_pos c10] at H
         have c10b0 : decide (10 < (((rd_T62 l0_3 x3_1).f1).length : Int)) = true := decide_eq_true c10
         have c10b1 : decide (10 < ((rd_T62 l0_3 x3_1).f1).length) = true := decide_eq_true (by omega)
         clear c10
         obtain rfl := Option.some.inj H
         have hcz11_0 : wc.cell? ⟨gb114, 0, none⟩ = some (.slice A0_0 l0_0.length c0_0) := (blk_cell BK114.out 0).trans rfl
         have hcz11_1 : wc.cell? ⟨gb114, 1, none⟩ = some (.slice A0_1 l0_1.length c0_1) := (blk_cell BK114.out 1).trans rfl
         have hcz11_2 : wc.cell? ⟨gb114, 2, none⟩ = some (.int .i64 a0_2) := (blk_cell BK114.out 2).trans rfl
         have hcz11_3 : wc.cell? ⟨gb114, 3, none⟩ = some (.slice A0_3 l0_3.length c0_3) := (blk_cell BK114.out 3).trans rfl
         have hfz11_0 := blk_frozen BK114.out 0
         have hfz11_1 := blk_frozen BK114.out 1
         have hfz11_2 := blk_frozen BK114.out 2
         have hfz11_3 := blk_frozen BK114.out 3
         have p115 : 0 ≤ (x3_1 : Int) := of_decide_eq_true (by first | (with_reducible assumption) | assumption)
         have q115 : x3_1 < (l0_3.length : Int) := of_decide_eq_true (by first | (with_reducible assumption) | assumption)
         obtain ⟨ad115, A115_1, c115_1, e115, hx115_0, hx115_1, hl115_1, hi115_1⟩ := at_T62 HR0_3.out x3_1 p115 q115
         cases e115
         replace hx115_0 := (HB.out.cell (World.block_lt_of_cell? w _ hx115_0)).trans hx115_0
         replace hx115_1 := (HB.out.cell (World.block_lt_of_cell? w _ hx115_1)).trans hx115_1
         have HR115_1 := Aside0.mk hi115_1
         have HC115_1 := Aside0.mk hl115_1
         clear hi115_1 hl115_1
         replace p115 := eq_true p115
         replace q115 := eq_true q115
         go_wp2
         go_ret
         exact ⟨by first | rfl | (simp [errW_none, errW_some] <;> rfl) | (simp [*, errW_none, errW_some] <;> rfl), by repeat (first | (with_reducible first | exact HB.out | apply below_alloc | apply pw_below_drewN | apply below_drew1 | refine below_set ?_ GE114.out) | exact HB.out)⟩
        ·rw [if_neg c10] at H
         have c10b0 : decide (10 < (((rd_T62 l0_3 x3_1).f1).length : Int)) = false := decide_eq_false c10
         have c10b1 : decide (10 < ((rd_T62 l0_3 x3_1).f1).length) = false := decide_eq_false (by omega)
         clear c10
         have H' := Aside0.mk H
         clear H
         have hcz12_0 : wc.cell? ⟨gb114, 0, none⟩ = some (.slice A0_0 l0_0.length c0_0) := (blk_cell BK114.out 0).trans rfl
         have hcz12_1 : wc.cell? ⟨gb114, 1, none⟩ = some (.slice A0_1 l0_1.length c0_1) := (blk_cell BK114.out 1).trans rfl
         have hcz12_2 : wc.cell? ⟨gb114, 2, none⟩ = some (.int .i64 a0_2) := (blk_cell BK114.out 2).trans rfl
         have hcz12_3 : wc.cell? ⟨gb114, 3, none⟩ = some (.slice A0_3 l0_3.length c0_3) := (blk_cell BK114.out 3).trans rfl
         have hfz12_0 := blk_frozen BK114.out 0
         have hfz12_1 := blk_frozen BK114.out 1
         have hfz12_2 := blk_frozen BK114.out 2
         have hfz12_3 := blk_frozen BK114.out 3
         have p115 : 0 ≤ (x3_1 : Int) := of_decide_eq_true (by first | (with_reducible assumption) | assumption)
         have q115 : x3_1 < (l0_3.length : Int) := of_decide_eq_true (by first | (with_reducible assumption) | assumption)
         obtain ⟨ad115, A115_1, c115_1, e115, hx115_0, hx115_1, hl115_1, hi115_1⟩ := at_T62 HR0_3.out x3_1 p115 q115
         cases e115
         replace hx115_0 := (HB.out.cell (World.block_lt_of_cell? w _ hx115_0)).trans hx115_0
         replace hx115_1 := (HB.out.cell (World.block_lt_of_cell? w _ hx115_1)).trans hx115_1
         have HR115_1 := Aside0.mk hi115_1
         have HC115_1 := Aside0.mk hl115_1
         clear hi115_1 hl115_1
         replace p115 := eq_true p115
         replace q115 := eq_true q115
         go_wp2
         go_roundg kj2
         case measure => have := HK1.out; have := HJ2.out; omega
         case rel => exact ⟨(wrap64 (x3_1 + 1)), (by first | rfl | (simp; done) | (simp [*]; done)), H', ⟨by have := HK1.out; have := HJ2.out; omega⟩, ⟨by (with_reducible repeat (first | refine blk_drewN ?_ _ | refine blk_drew ?_ | refine blk_alloc ?_ _)); exact BK114.out⟩, ⟨by repeat (first | (with_reducible first | exact HB.out | apply below_alloc | apply pw_below_drewN | apply below_drew1 | refine below_set ?_ GE114.out) | exact HB.out)⟩⟩
       ·rw [if_neg c9] at H
        exact absurd H (by simp)
      ·rw [if_neg c8] at H
       exact absurd H (by simp)
     ·replace c7 := Bool.eq_false_iff.mpr c7
      subst c7
      have H1 : (if (l0_0.length : Int) ≤ 6 then (if (l0_1.length : Int) ≤ 10 then (some (decide ((l0_3.length : Int) ≤ 8))) else (some false)) else (some false)) = some r := by rw [if_neg (show ¬ (false = true) by decide)] at H; exact H
      clear H
      have H := H1
      clear H1
      by_cases c13 : (l0_0.length : Int) ≤ 6
      ·rw [if_pos c13] at H
       have c13b0 : decide ((l0_0.length : Int) ≤ 6) = true := decide_eq_true c13
       have c13b1 : decide (l0_0.length ≤ 6) = true := decide_eq_true (by omega)
       clear c13
       by_cases c14 : (l0_1.length : Int) ≤ 10
       ·rw [if_pos c14] at H
        have c14b0 : decide ((l0_1.length : Int) ≤ 10) = true := decide_eq_true c14
        have c14b1 : decide (l0_1.length ≤ 10) = true := decide_eq_true (by omega)
        clear c14
        obtain rfl := Option.some.inj H
        have hcz15_0 : wc.cell? ⟨gb114, 0, none⟩ = some (.slice A0_0 l0_0.length c0_0) := (blk_cell BK114.out 0).trans rfl
        have hcz15_1 : wc.cell? ⟨gb114, 1, none⟩ = some (.slice A0_1 l0_1.length c0_1) := (blk_cell BK114.out 1).trans rfl
        have hcz15_2 : wc.cell? ⟨gb114, 2, none⟩ = some (.int .i64 a0_2) := (blk_cell BK114.out 2).trans rfl
        have hcz15_3 : wc.cell? ⟨gb114, 3, none⟩ = some (.slice A0_3 l0_3.length c0_3) := (blk_cell BK114.out 3).trans rfl
        have hfz15_0 := blk_frozen BK114.out 0
        have hfz15_1 := blk_frozen BK114.out 1
        have hfz15_2 := blk_frozen BK114.out 2
        have hfz15_3 := blk_frozen BK114.out 3
        go_wp2
        go_ret
        exact ⟨by first | rfl | (simp [errW_none, errW_some] <;> rfl) | (simp [*, errW_none, errW_some] <;> rfl), by repeat (first | (with_reducible first | exact HB.out | apply below_alloc | apply pw_below_drewN | apply below_drew1 | refine below_set ?_ GE114.out) | exact HB.out)⟩
       ·rw [if_neg c14] at H
        have c14b0 : decide ((l0_1.length : Int) ≤ 10) = false := decide_eq_false c14
        have c14b1 : decide (l0_1.length ≤ 10) = false := decide_eq_false (by omega)
        clear c14
        obtain rfl := Option.some.inj H
        have hcz16_0 : wc.cell? ⟨gb114, 0, none⟩ = some (.slice A0_0 l0_0.length c0_0) := (blk_cell BK114.out 0).trans rfl
        have hcz16_1 : wc.cell? ⟨gb114, 1, none⟩ = some (.slice A0_1 l0_1.length c0_1) := (blk_cell BK114.out 1).trans rfl
        have hcz16_2 : wc.cell? ⟨gb114, 2, none⟩ = some (.int .i64 a0_2) := (blk_cell BK114.out 2).trans rfl
        have hcz16_3 : wc.cell? ⟨gb114, 3, none⟩ = some (.slice A0_3 l0_3.length c0_3) := (blk_cell BK114.out 3).trans rfl
        have hfz16_0 := blk_frozen BK114.out 0
        have hfz16_1 := blk_frozen BK114.out 1
        have hfz16_2 := blk_frozen BK114.out 2
        have hfz16_3 := blk_frozen BK114.out 3
        go_wp2
        go_ret
        exact ⟨by first | rfl | (simp [errW_none, errW_some] <;> rfl) | (simp [*, errW_none, errW_some] <;> rfl), by repeat (first | (with_reducible first | exact HB.out | apply below_alloc | apply pw_below_drewN | apply below_drew1 | refine below_set ?_ GE114.out) | exact HB.out)⟩
      ·rw [if_neg c13] at H
       have c13b0 : decide ((l0_0.length : Int) ≤ 6) = false := decide_eq_false c13
       have c13b1 : decide (l0_0.length ≤ 6) = false := decide_eq_false (by omega)
       clear c13
       obtain rfl := Option.some.inj H
       have hcz17_0 : wc.cell? ⟨gb114, 0, none⟩ = some (.slice A0_0 l0_0.length c0_0) := (blk_cell BK114.out 0).trans rfl
       have hcz17_1 : wc.cell? ⟨gb114, 1, none⟩ = some (.slice A0_1 l0_1.length c0_1) := (blk_cell BK114.out 1).trans rfl
       have hcz17_2 : wc.cell? ⟨gb114, 2, none⟩ = some (.int .i64 a0_2) := (blk_cell BK114.out 2).trans rfl
       have hcz17_3 : wc.cell? ⟨gb114, 3, none⟩ = some (.slice A0_3 l0_3.length c0_3) := (blk_cell BK114.out 3).trans rfl
       have hfz17_0 := blk_frozen BK114.out 0
       have hfz17_1 := blk_frozen BK114.out 1
       have hfz17_2 := blk_frozen BK114.out 2
       have hfz17_3 := blk_frozen BK114.out 3
       go_wp2
       go_ret
       exact ⟨by first | rfl | (simp [errW_none, errW_some] <;> rfl) | (simp [*, errW_none, errW_some] <;> rfl), by repeat (first | (with_reducible first | exact HB.out | apply below_alloc | apply pw_below_drewN | apply below_drew1 | refine below_set ?_ GE114.out) | exact HB.out)⟩
def tensilelaw08_ints.l0 : Nat → List Int → List Int → Int → Option (Bool)
 | 0, _, _, _ => none
 | k + 1, x0, x1, x5 => if x5 < (x0.length : Int) then (if 0 ≤ x5 then (if x5 < (x1.length : Int) then (if (rd x0 x5) = (rd x1 x5) then (tensilelaw08_ints.l0 k x0 x1 (wrap64 (x5 + 1))) else (some false)) else (none)) else (none)) else (some true)
def tensilelaw08_ints.f (k : Nat) (l0 : List Int) (l1 : List Int) : Option (Bool) := if (l0.length : Int) = (l1.length : Int) then (tensilelaw08_ints.l0 k l0 l1 0) else (some false)
set_option maxHeartbeats 8000000 in
set_option maxRecDepth 100000 in
theorem tensilelaw08_ints.calls (k : Nat) (A0 : Option Addr) (c0 : Nat) (l0 : List Int) (A1 : Option Addr) (c1 : Nat) (l1 : List Int) (r : Bool) (w : World) (hr0 : Kd.C (Kd.int .i64) w A0 l0.length l0) (hc0 : l0.length ≤ c0) (hr1 : Kd.C (Kd.int .i64) w A1 l1.length l1) (hc1 : l1.length ≤ c1) (h : tensilelaw08_ints.f k l0 l1 = some r) :
  Calls Try.prog 30 #[.slice A0 l0.length c0, .slice A1 l1.length c1] w fun e w' => e = .returned (.bool r) ∧ Drawn0 w w' := by
 have HR0 := Aside0.mk hr0
 have HC0 := Aside0.mk hc0
 clear hr0 hc0
 have HR1 := Aside0.mk hr1
 have HC1 := Aside0.mk hc1
 clear hr1 hc1
 have H : (if (l0.length : Int) = (l1.length : Int) then (tensilelaw08_ints.l0 k l0 l1 0) else (some false)) = some r := h
 clear h
 by_cases c3 : (l0.length : Int) = (l1.length : Int)
 ·rw [if_pos c3] at H
  have c3b0 : ((l0.length : Int) == (l1.length : Int)) = true := beq_iff_eq.mpr c3
  have c3b1 : ((l0.length : Int) != (l1.length : Int)) = false := bne_eq_false_iff_eq.mpr c3
  have c3b2 : (l0.length == l1.length) = true := by first | simpa using c3 | (simp at c3 ⊢; omega)
  clear c3
  have H' := Aside0.mk H
  clear H
  go_enter Try.func30, Try.ntmps30
  go_wp2
  repeat (go_quiet (fail); try go_wp2)
  go_loopg [5] k (fun kq v5 w' => ∃ (x5_1 : Int), v5 = .int .i64 x5_1 ∧ Aside0 (tensilelaw08_ints.l0 kq l0 l1 x5_1 = some r) ∧ Aside0 (kq ≤ k) ∧ Drawn0 w w')
  case atStart => exact ⟨(0), (by first | rfl | (simp; done) | (simp [*]; done)), H', ⟨Nat.le_refl _⟩, by repeat (first | exact Drawn0.refl _ | apply Drawn0.step)⟩
  case round =>
   clear H'
   try clear c1
   try clear p2
   try clear c3
   try clear c3b0
   try clear c3b1
   try clear c3b2
   obtain ⟨x5_1, rfl, HA, HK1, ⟨m1, rfl⟩⟩ := hrel
   cases gk with
   | zero => exact absurd HA.out (by simp [tensilelaw08_ints.l0])
   | succ k1 =>
    have H := HA.out
    clear HA
    simp only [tensilelaw08_ints.l0] at H
    by_cases c4 : x5_1 < (l0.length : Int)
    ·rw [if_pos c4] at H
     have c4b0 : decide (x5_1 < (l0.length : Int)) = true := decide_eq_true c4
     clear c4
     by_cases c5 : 0 ≤ x5_1
     ·rw [if_pos c5] at H
      have c5b0 : decide (0 ≤ x5_1) = true := decide_eq_true c5
      clear c5
      by_cases c6 : x5_1 < (l1.length : Int)
      ·rw [if_pos c6] at H
       have c6b0 : decide (x5_1 < (l1.length : Int)) = true := decide_eq_true c6
       clear c6
       by_cases c7 : (rd l0 x5_1) = (rd l1 x5_1)
       ·rw [if_pos c7] at H
        have c7b0 : ((rd l0 x5_1) == (rd l1 x5_1)) = true := beq_iff_eq.mpr c7
        have c7b1 : ((rd l0 x5_1) != (rd l1 x5_1)) = false := bne_eq_false_iff_eq.mpr c7
        clear c7
        have H' := Aside0.mk H
        clear H
        have p131 : 0 ≤ (x5_1 : Int) := of_decide_eq_true (by first | (with_reducible assumption) | assumption)
        have q131 : x5_1 < (l0.length : Int) := of_decide_eq_true (by first | (with_reducible assumption) | assumption)
        obtain ⟨ad131, e131, hx131_0⟩ := Kd.at_int HR0.out x5_1 p131 q131
        cases e131
        replace p131 := eq_true p131
        replace q131 := eq_true q131
        have p132 : 0 ≤ (x5_1 : Int) := of_decide_eq_true (by first | (with_reducible assumption) | assumption)
        have q132 : x5_1 < (l1.length : Int) := of_decide_eq_true (by first | (with_reducible assumption) | assumption)
        obtain ⟨ad132, e132, hx132_0⟩ := Kd.at_int HR1.out x5_1 p132 q132
        cases e132
        replace p132 := eq_true p132
        replace q132 := eq_true q132
        go_wp2
        repeat (go_quiet (fail); try go_wp2)
        go_roundg k1
        case measure => have := HK1.out; omega
        case rel => exact ⟨(wrap64 (x5_1 + 1)), (by first | rfl | (simp; done) | (simp [*]; done)), H', ⟨by have := HK1.out; omega⟩, by repeat (first | exact Drawn0.refl _ | apply Drawn0.step)⟩
       ·rw [if_neg c7] at H
        have c7b0 : ((rd l0 x5_1) == (rd l1 x5_1)) = false := beq_eq_false_iff_ne.mpr c7
        have c7b1 : ((rd l0 x5_1) != (rd l1 x5_1)) = true := bne_iff_ne.mpr c7
        obtain rfl := Option.some.inj H
        have p131 : 0 ≤ (x5_1 : Int) := of_decide_eq_true (by first | (with_reducible assumption) | assumption)
        have q131 : x5_1 < (l0.length : Int) := of_decide_eq_true (by first | (with_reducible assumption) | assumption)
        obtain ⟨ad131, e131, hx131_0⟩ := Kd.at_int HR0.out x5_1 p131 q131
        cases e131
        replace p131 := eq_true p131
        replace q131 := eq_true q131
        have p132 : 0 ≤ (x5_1 : Int) := of_decide_eq_true (by first | (with_reducible assumption) | assumption)
        have q132 : x5_1 < (l1.length : Int) := of_decide_eq_true (by first | (with_reducible assumption) | assumption)
        obtain ⟨ad132, e132, hx132_0⟩ := Kd.at_int HR1.out x5_1 p132 q132
        cases e132
        replace p132 := eq_true p132
        replace q132 := eq_true q132
        go_wp2
        repeat (go_quiet (fail); try go_wp2)
        go_ret
        exact ⟨by first | rfl | (simp; done) | (simp [*]; done), by repeat (first | exact Drawn0.refl _ | apply Drawn0.step)⟩
      ·rw [if_neg c6] at H
       exact absurd H (by simp)
     ·rw [if_neg c5] at H
      exact absurd H (by simp)
    ·rw [if_neg c4] at H
     have c4b0 : decide (x5_1 < (l0.length : Int)) = false := decide_eq_false c4
     clear c4
     obtain rfl := Option.some.inj H
     go_wp2
     repeat (go_quiet (fail); try go_wp2)
     go_ret
     exact ⟨by first | rfl | (simp; done) | (simp [*]; done), by repeat (first | exact Drawn0.refl _ | apply Drawn0.step)⟩
 ·rw [if_neg c3] at H
  have c3b0 : ((l0.length : Int) == (l1.length : Int)) = false := beq_eq_false_iff_ne.mpr c3
  have c3b1 : ((l0.length : Int) != (l1.length : Int)) = true := bne_iff_ne.mpr c3
  have c3b2 : (l0.length == l1.length) = false := by first | simpa using c3 | (simp at c3 ⊢; omega)
  obtain rfl := Option.some.inj H
  go_enter Try.func30, Try.ntmps30
  go_wp2
  repeat (go_quiet (fail); try go_wp2)
  go_ret
  exact ⟨by first | rfl | (simp; done) | (simp [*]; done), by repeat (first | exact Drawn0.refl _ | apply Drawn0.step)⟩
end Go.Proofs.Ytcpbhklaffgokaa.Q
namespace Go.Proofs.Ytcpbhklaffgokaa.Q
open Go.RowKit Go.Proofs.YtcpbhklaffgokaaW.PrintWords Go.Proofs.YtcpbhklaffgokaaW.PrintLast Go.Proofs.YtcpbhklaffgokaaW.PrintMore
set_option linter.unusedVariables false
set_option linter.unusedSimpArgs false
def RetB (w : World) (v : Value) (e : Ending) (w' : World) : Prop := e = .returned v ∧ Below w.heap.size w w'
theorem wake_e1 (A0 A1 A3 : Option Addr) (c0 c1 c3 : Nat) (w : World) (hr0 : Kd.C k46 w A0 2 trialLots) (hr1 : (Kd.int .i64).C w A1 3 trialSamples) (hr3 : Kd.C k75 w A3 4 trialLabs) : Calls Try.prog 21 #[.agg #[.slice A0 2 c0, .slice A1 3 c1, .int .i64 2, .slice A3 4 c3], .slice none 0 0] w (RetB w (.tuple #[.bool false, .int .i64 0])) := by
 have h := explains_any A0 c0 trialLots A1 c1 trialSamples 2 A3 c3 trialLabs none 0 [] w hr0 hr1 hr3 (Kd.C_nil _ _) (by decide)
 rw [trial_pure.2.1] at h
 exact h
theorem wake_e2 (A0 A1 A3 : Option Addr) (c0 c1 c3 : Nat) (w : World) (hr0 : Kd.C k46 w A0 2 trialLots) (hr1 : (Kd.int .i64).C w A1 3 trialSamples) (hr3 : Kd.C k75 w A3 4 trialLabs) (g : Nat) (hg : w.heap[g]? = some (.cells #[.int .i64 2] 3 (0, 0))) : Calls Try.prog 21 #[.agg #[.slice A0 2 c0, .slice A1 3 c1, .int .i64 2, .slice A3 4 c3], .slice (some ⟨g, 0, none⟩) 1 1] w (RetB w (.tuple #[.bool true, .int .i64 0])) := by
 have h := explains_any A0 c0 trialLots A1 c1 trialSamples 2 A3 c3 trialLabs (some ⟨g, 0, none⟩) 1 [2] w hr0 hr1 hr3 (C_ints (xs := [2]) hg (by decide)) (by decide)
 rw [trial_pure.2.2.1] at h
 exact h
def WakeS (w : World) (e : Ending) (w' : World) : Prop := ∃ g c : Nat, e = .returned (.tuple #[.slice (some ⟨g, 0, none⟩) 3 c, .int .i64 0]) ∧ (w'.cell? ⟨g, 0, none⟩ = some (.int .i64 121) ∧ w'.cell? ⟨g, 1, none⟩ = some (.int .i64 123) ∧ w'.cell? ⟨g, 2, none⟩ = some (.int .i64 119) ∧ w'.cell? ⟨g, 3, none⟩ = some (.int .i64 123) ∧ w'.cell? ⟨g, 4, none⟩ = some (.int .i64 231) ∧ w'.cell? ⟨g, 5, none⟩ = some (.int .i64 233)) ∧ Below w.heap.size w w'
theorem wake_s (A0 A1 A3 : Option Addr) (c0 c1 c3 : Nat) (w : World) (hr0 : Kd.C k46 w A0 2 trialLots) (hr1 : (Kd.int .i64).C w A1 3 trialSamples) (hr3 : Kd.C k75 w A3 4 trialLabs) (g : Nat) (hg : w.heap[g]? = some (.cells #[.int .i64 2] 3 (0, 0))) : Calls Try.prog 26 #[.agg #[.slice A0 2 c0, .slice A1 3 c1, .int .i64 2, .slice A3 4 c3], .slice (some ⟨g, 0, none⟩) 1 1] w (WakeS w) := by
 have h := Spans_any A0 c0 trialLots A1 c1 trialSamples 2 A3 c3 trialLabs (some ⟨g, 0, none⟩) 1 [2] w hr0 hr1 hr3 (C_ints (xs := [2]) hg (by decide)) (by decide)
 rw [trial_pure.2.2.2.1] at h
 refine h.mono ?_
 rintro e w' ⟨v, rfl, hv, hb⟩
 obtain ⟨g1, cap, rfl, _⟩ := Kd.R_form hv (by decide)
 have hC := (Kd.R_reads' hv).2.2
 obtain ⟨ad, e0, a0, a1⟩ := at_T46 hC 0 (by decide) (by decide)
 obtain ⟨ad1, e1, b0, b1⟩ := at_T46 hC 1 (by decide) (by decide)
 obtain ⟨ad2, e2, d0, d1⟩ := at_T46 hC 2 (by decide) (by decide)
 cases e0
 cases e1
 cases e2
 exact ⟨g1, cap, rfl, ⟨a0, a1, b0, b1, d0, d1⟩, hb⟩
def WakeL (w : World) (e : Ending) (w' : World) : Prop := ∃ g c : Nat, 1 ≤ c ∧ e = .returned (.tuple #[.slice (some ⟨g, 0, none⟩) 1 c, .int .i64 0]) ∧ (Kd.int .i64).C w' (some ⟨g, 0, none⟩) 1 [2] ∧ Below w.heap.size w w'
set_option maxRecDepth 100000 in
theorem trial_few : 0 < (fewestF trialLots trialSamples 2 trialLabs).length := of_decide_eq_true (by kernel_rfl)
theorem wake_l (A0 A1 A3 : Option Addr) (c0 c1 c3 : Nat) (w : World) (hr0 : Kd.C k46 w A0 2 trialLots) (hr1 : (Kd.int .i64).C w A1 3 trialSamples) (hr3 : Kd.C k75 w A3 4 trialLabs) : Calls Try.prog 29 #[.agg #[.slice A0 2 c0, .slice A1 3 c1, .int .i64 2, .slice A3 4 c3]] w (WakeL w) := by
 have h := Least_any A0 c0 trialLots A1 c1 trialSamples 2 A3 c3 trialLabs w hr0 hr1 hr3 (fun _ => trial_few)
 rw [trial_pure.2.2.2.2] at h
 refine h.mono ?_
 rintro e w' ⟨v, rfl, hv, hb⟩
 obtain ⟨g1, cap, rfl, _⟩ := Kd.R_form hv (by decide)
 exact ⟨g1, cap, (Kd.R_reads' hv).2.1, rfl, (Kd.R_reads' hv).2.2, hb⟩
theorem wake_h (A0 A1 A3 : Option Addr) (c0 c1 c3 : Nat) (w : World) (hr0 : Kd.C k46 w A0 2 trialLots) (hr1 : (Kd.int .i64).C w A1 3 trialSamples) (hr3 : Kd.C k75 w A3 4 trialLabs) : Calls Try.prog 32 #[.agg #[.slice A0 2 c0, .slice A1 3 c1, .int .i64 2, .slice A3 4 c3], .int .i64 2] w (RetB w (.tuple #[.agg #[.int .i64 8, .int .i64 11], .int .i64 0])) := by
 have h := shifts_any A0 c0 trialLots A1 c1 trialSamples 2 A3 c3 trialLabs 2 w hr0 hr1 hr3
 rw [trial_shifts] at h
 exact h
theorem wake_i (g g1 c : Nat) (w : World) (hc : 1 ≤ c) (h0 : (Kd.int .i64).C w (some ⟨g, 0, none⟩) 1 [2]) (h1 : w.heap[g1]? = some (.cells #[.int .i64 2] 3 (0, 0))) :
  Calls Try.prog 30 #[.slice (some ⟨g, 0, none⟩) 1 c, .slice (some ⟨g1, 0, none⟩) 1 1] w fun e w' => e = .returned (.bool true) ∧ Drawn0 w w' :=
 tensilelaw08_ints.calls 5 _ c [2] _ 1 [2] true w h0 hc (C_ints (xs := [2]) h1 (by decide)) (by decide) (by kernel_rfl)
set_option maxHeartbeats 4000000 in
set_option maxRecDepth 100000 in
theorem wakes_any (w : World) : Calls Try.prog 18 #[] w (RetB w (.bool true)) := by
 have HB := Aside0.mk (Below.refl w.heap.size w)
 go_enter Try.func18, Try.ntmps18
 go_wp2_with (first | (go_at_call 40; (with_reducible refine (trial_any _).mono ?_); rintro e wa ⟨A0, A1, A3, c0, c1, c3, rfl, ha0, ha1, ha3, hb⟩; replace ha0 := Aside0.mk ha0; replace ha1 := Aside0.mk ha1; replace ha3 := Aside0.mk ha3; replace HB := Aside0.mk (below_step HB.out hb); clear hb) | (go_at_call 21; first | ((with_reducible refine (wake_e1 A0 A1 A3 c0 c1 c3 _ ha0.out ha1.out ha3.out).mono ?_); rintro e wb ⟨rfl, hb⟩; replace HB := Aside0.mk (below_step HB.out hb); clear hb ha0 ha1 ha3) | ((with_reducible refine (wake_e2 A0 A1 A3 c0 c1 c3 _ (Kd.C_alloc ha0.out _) (Kd.C_alloc ha1.out _) (Kd.C_alloc ha3.out _) _ (blk_new _ _)).mono ?_); rintro e wb ⟨rfl, hb⟩; replace HB := Aside0.mk (below_step (below_alloc HB.out _) hb); clear hb ha0 ha1 ha3)) | (go_at_call 26; refine Aside0.out ?_))
 refine ⟨?_⟩
 refine (wake_s A0 A1 A3 c0 c1 c3 _ (Kd.C_alloc ha0.out _) (Kd.C_alloc ha1.out _) (Kd.C_alloc ha3.out _) _ (blk_new _ _)).mono ?_
 rintro e wd ⟨gs, cs, rfl, hs, hb⟩
 replace HB := Aside0.mk (below_step (below_alloc HB.out _) hb)
 replace hs := Aside0.mk hs
 clear hb ha0 ha1 ha3
 have HM := Aside0.mk (fun (w' : World) (h : Below wd.heap.size wd w') => (⟨(h.cell (World.block_lt_of_cell? _ _ hs.out.1)).trans hs.out.1, (h.cell (World.block_lt_of_cell? _ _ hs.out.2.1)).trans hs.out.2.1, (h.cell (World.block_lt_of_cell? _ _ hs.out.2.2.1)).trans hs.out.2.2.1, (h.cell (World.block_lt_of_cell? _ _ hs.out.2.2.2.1)).trans hs.out.2.2.2.1, (h.cell (World.block_lt_of_cell? _ _ hs.out.2.2.2.2.1)).trans hs.out.2.2.2.2.1, (h.cell (World.block_lt_of_cell? _ _ hs.out.2.2.2.2.2)).trans hs.out.2.2.2.2.2⟩ : w'.cell? ⟨gs, 0, none⟩ = some (.int .i64 121) ∧ w'.cell? ⟨gs, 1, none⟩ = some (.int .i64 123) ∧ w'.cell? ⟨gs, 2, none⟩ = some (.int .i64 119) ∧ w'.cell? ⟨gs, 3, none⟩ = some (.int .i64 123) ∧ w'.cell? ⟨gs, 4, none⟩ = some (.int .i64 231) ∧ w'.cell? ⟨gs, 5, none⟩ = some (.int .i64 233)))
 have HD := Aside0.mk (Below.refl wd.heap.size wd)
 go_wp2_with (first | (go_at_call 40; (with_reducible refine (trial_any _).mono ?_); rintro e wa ⟨A0, A1, A3, c0, c1, c3, rfl, ha0, ha1, ha3, hb⟩; replace ha0 := Aside0.mk ha0; replace ha1 := Aside0.mk ha1; replace ha3 := Aside0.mk ha3; replace HD := Aside0.mk (below_step HD.out hb); (try replace HL := Aside0.mk (below_step HL.out hb)); clear hb) | (go_at_call 29; (with_reducible refine (wake_l A0 A1 A3 c0 c1 c3 _ ha0.out ha1.out ha3.out).mono ?_); rintro e we ⟨gl, cl, hcl, rfl, hl, hb⟩; replace HD := Aside0.mk (below_step HD.out hb); replace hl := Aside0.mk hl; replace hcl := Aside0.mk hcl; have HL := Aside0.mk (Below.refl we.heap.size we); clear hb ha0 ha1 ha3) | (go_at_call 32; refine Aside0.out ?_))
 refine ⟨?_⟩
 refine (wake_h A0 A1 A3 c0 c1 c3 _ ha0.out ha1.out ha3.out).mono ?_
 rintro e wf ⟨rfl, hb⟩
 replace HL := Aside0.mk (Kd.C_below hl.out (below_alloc (below_step HL.out hb) (.cells #[.int .i64 8, .int .i64 11] 46)))
 replace HD := Aside0.mk (below_alloc (below_step HD.out hb) (.cells #[.int .i64 8, .int .i64 11] 46))
 have HBF := Aside0.mk (below_step HB.out HD.out)
 have B9 := Aside0.mk (blk_new wf (.cells #[.int .i64 8, .int .i64 11] 46))
 obtain ⟨s0, s1, s2, s3, s4, s5⟩ := HM.out _ HD.out
 have hcl1 := hcl.out
 clear hb ha0 ha1 ha3 hs HM HB HD hl hcl
 go_wp2_with fail
 refine (wake_i gl (wf.heap.size + 1) cl _ hcl1 (Kd.C_alloc HL.out _) (blk_new' (by simp))).mono ?_
 replace B9 := Aside0.mk (blk_alloc B9.out (.cells #[.int .i64 2] 3))
 replace HBF := Aside0.mk (below_alloc HBF.out (.cells #[.int .i64 2] 3))
 clear s0 s1 s2 s3 s4 s5 HL hcl1
 generalize (wf.alloc (.cells #[.int .i64 8, .int .i64 11] 46)).alloc (.cells #[.int .i64 2] 3) = wg at B9 HBF ⊢
 rintro e wh ⟨rfl, hd⟩
 have hbd := hd.below
 replace B9 := Aside0.mk (blk_below B9.out hbd)
 replace HBF := Aside0.mk (below_step HBF.out hbd)
 clear hd hbd
 obtain ⟨q0, q1⟩ := cells2 B9.out
 go_wp2
 go_ret
 exact ⟨rfl, HBF.out⟩
end Go.Proofs.Ytcpbhklaffgokaa.Q
namespace Go.Proofs.Ytcpbhklaffgokaa.Q
open Go.RowKit Go.Proofs.YtcpbhklaffgokaaW.PrintWords Go.Proofs.YtcpbhklaffgokaaW.PrintLast Go.Proofs.YtcpbhklaffgokaaW.PrintMore
set_option linter.unusedVariables false
end Go.Proofs.Ytcpbhklaffgokaa.Q
namespace Go.Proofs.Ytcpbhklaffgokaa.Q
open Go.RowKit Go.Proofs.YtcpbhklaffgokaaW.PrintWords Go.Proofs.YtcpbhklaffgokaaW.PrintLast Go.Proofs.YtcpbhklaffgokaaW.PrintMore
attribute [local go_sem] max2_int min2_int max_two min_two max_three min_three max_four min_four
set_option linter.unusedVariables false
set_option linter.unusedSimpArgs false
def tensilelaw08_list.f (l0 : List Int) : Option (List Int) := (some (([] : List Int) : List Int)).bind fun y155 => (if y155.length + l0.length < 17592186044416 then (some (y155 ++ l0)) else (none))
set_option maxHeartbeats 8000000 in
set_option maxRecDepth 100000 in
theorem tensilelaw08_list.calls (A0 : Option Addr) (c0 : Nat) (l0 : List Int) (r : List Int) (w : World) (hr0 : Kd.C (Kd.int .i64) w A0 l0.length l0) (hc0 : l0.length ≤ c0) (h : tensilelaw08_list.f l0 = some r) :
  Calls Try.prog 22 #[.slice A0 l0.length c0] w fun e w' => ∃ v0_ : Value, e = .returned (v0_) ∧ Kd.R (Kd.int .i64) 3 w' w.heap.size (fun _ => True) v0_ r ∧ Below w.heap.size w w' := by
 have HR0 := Aside0.mk hr0
 have HC0 := Aside0.mk hc0
 clear hr0 hc0
 have HB := Aside0.mk (Below.refl w.heap.size w)
 have H : ((some (([] : List Int) : List Int)).bind fun y155 => (if y155.length + l0.length < 17592186044416 then (some (y155 ++ l0)) else (none))) = some r := h
 clear h
 obtain ⟨y155, hy155⟩ : ∃ y_ : List Int, y_ = (([] : List Int)) := ⟨_, rfl⟩
 replace H : (if y155.length + l0.length < 17592186044416 then (some (y155 ++ l0)) else (none)) = some r := by first | (rw [hy155]; with_reducible exact H) | (have H2_ := (Option.bind_some _ _).symm.trans H; rw [hy155]; with_reducible exact H2_) | (have H2_ := (Option.bind_some _ _).symm.trans H; with_reducible exact H2_) | with_reducible exact H | (rw [hy155]; exact H) | exact H
 have Ny155 := Aside0.mk hy155
 clear hy155
 by_cases c2 : y155.length + l0.length < 17592186044416
 ·rw [if_pos c2] at H
  have LMc2 := Aside0.mk c2
  clear c2
  obtain ⟨y158, hy158⟩ : ∃ y_ : List Int, y_ = (y155 ++ l0) := ⟨_, rfl⟩
  replace H : (some y158) = some r := by first | (rw [hy158]; with_reducible exact H) | (have H2_ := (Option.bind_some _ _).symm.trans H; rw [hy158]; with_reducible exact H2_) | (have H2_ := (Option.bind_some _ _).symm.trans H; with_reducible exact H2_) | with_reducible exact H | (rw [hy158]; exact H) | exact H
  have Ny158 := Aside0.mk hy158
  clear hy158
  obtain rfl := Option.some.inj H
  go_enter Try.func22, Try.ntmps22
  go_wp2_with (first | ((with_reducible refine gate_dst (N := 3) rfl ?_); refine Kd.R_lit (Kd.int .i64) _ 3 ?hg (N := 3) ?hd (xs := ([] : List Int)) (inner := []) (ok := fun _ => True) (okp := fun _ => True) ?hr ?hp (fun _ hk => hk) trivial (Below.refl _ _) (Nat.le_refl _) (by simp) ?_; (case hd => rfl); (case hg => rfl); (case hr => first | (go_simp; done) | (go_simp; rfl)); (case hp => exact (Reps.none _ _)); intro v156 w3 ho4 hb hg_ hnew_; clear hg_ hnew_; (first | rw [← Ny155.out] at ho4 | (simp only [Int.reduceToNat] at ho4; rw [← Ny155.out] at ho4)); have n0_ := Aside0.mk (Kd.R_lower ho4 (below_size (by repeat (first | (with_reducible first | exact HB.out | apply below_alloc | apply pw_below_drewN | apply below_drew1) | exact HB.out)))); have n1_ := Aside0.mk (below_step (by repeat (first | (with_reducible first | exact HB.out | apply below_alloc | apply pw_below_drewN | apply below_drew1) | exact HB.out)) hb); clear HB; have HO157 := n0_; have HB := n1_; clear n0_ n1_; clear hb ho4) | ((with_reducible refine gate_builtin (b := .append) (xs := #[.tmp 3, .tmp 4]) rfl ?_); at_builtin; refine Kd.R_append_rows (Kd.int .i64) (w0 := w) w.heap.size rfl (.tmp 3) (.tmp 4) 23 3 (.int .i64 0) 8 rfl Try.underlying23 info3 rfl (by decide) (by omega) v156 y155 l0 _ _ _ (fun _ => True) (fun _ => False) rfl rfl ?aO ?aR (fun _ _ h => h) (fun _ h => h.elim) ?aF ?aB ?aS ?aL ?_; (case aR => repeat (first | exact (Kd.C_below HR0.out HB.out) | (with_reducible refine Kd.C_alloc ?_ _) | (with_reducible refine Kd.C_drewN ?_ _) | (with_reducible refine Kd.C_drew ?_))); (case aB => exact (by repeat (first | (with_reducible first | exact HB.out | apply below_alloc | apply pw_below_drewN | apply below_drew1) | exact HB.out))); (case aF => exact (fun _ _ => trivial)); (case aO => exact (by (with_reducible repeat (first | apply Kd.R_alloc | apply Kd.R_drewN | apply Kd.R_drew)); exact HO157.out)); (case aS => exact (below_size (by repeat (first | (with_reducible first | exact HB.out | apply below_alloc | apply pw_below_drewN | apply below_drew1) | exact HB.out)))); (case aL => have := LMc2.out; omega); intro v159 w5 ho hb hg hat; rw [← Ny158.out] at ho; have n0_ := Aside0.mk (hb); have n1_ := Aside0.mk (ho); clear HB; clear HO157; have HB := n0_; have HO160 := n1_; clear n0_ n1_; clear ho hb hg hat))
  go_ret
  exact ⟨_, by first | rfl | (simp [errW_none, errW_some] <;> rfl) | (simp [*, errW_none, errW_some] <;> rfl), by (with_reducible repeat (first | apply Kd.R_alloc | apply Kd.R_drewN | apply Kd.R_drew)); exact HO160.out, by repeat (first | (with_reducible first | exact HB.out | apply below_alloc | apply pw_below_drewN | apply below_drew1) | exact HB.out)⟩
 ·rw [if_neg c2] at H
  exact absurd H (by simp)
end Go.Proofs.Ytcpbhklaffgokaa.Q
