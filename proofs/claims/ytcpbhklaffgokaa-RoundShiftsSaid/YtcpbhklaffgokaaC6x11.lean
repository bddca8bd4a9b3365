import Derived.Test.YtcpbhklaffgokaaC6x10
namespace Go.Proofs.Ytcpbhklaffgokaa.Q
open Go.RowKit Go.Proofs.YtcpbhklaffgokaaW.PrintWords Go.Proofs.YtcpbhklaffgokaaW.PrintLast Go.Proofs.YtcpbhklaffgokaaW.PrintMore
attribute [local go_sem] max2_int min2_int max_two min_two max_three min_three max_four min_four
set_option linter.unusedVariables false
set_option linter.unusedSimpArgs false
def tensileref08_Near.l0 : Nat → List Int → Int → Int → Int → Int → Int → List (S44) → List Int → Int → List (S62) → Option (Bool)
 | 0, _, _, _, _, _, _, _, _, _, _ => none
 | k + 1, x1, x2, x3, x4, x5, x13, x199000, x199001, x199002, x199003 => if x13 ≤ (wrap64 (x5 + x199002)) then ((tensileref08_Agrees.f k x199000 x199001 x199002 x199003 x1 x2 x3 x4 x13).bind fun t199 => (if t199 = true then (some true) else (tensileref08_Near.l0 k x1 x2 x3 x4 x5 (wrap64 (x13 + 1)) x199000 x199001 x199002 x199003))) else (some false)
def tensileref08_Near.f (k : Nat) (l0_0 : List (S44)) (l0_1 : List Int) (a0_2 : Int) (l0_3 : List (S62)) (l1 : List Int) (a2 : Int) (a3 : Int) (a4 : Int) (a5 : Int) : Option (Bool) := tensileref08_Near.l0 k l1 a2 a3 a4 a5 (wrap64 (a5 - a0_2)) l0_0 l0_1 a0_2 l0_3
set_option maxHeartbeats 8000000 in
set_option maxRecDepth 100000 in
theorem tensileref08_Near.calls (k : Nat) (A0_0 : Option Addr) (c0_0 : Nat) (l0_0 : List (S44)) (A0_1 : Option Addr) (c0_1 : Nat) (l0_1 : List Int) (a0_2 : Int) (A0_3 : Option Addr) (c0_3 : Nat) (l0_3 : List (S62)) (A1 : Option Addr) (c1 : Nat) (l1 : List Int) (a2 : Int) (a3 : Int) (a4 : Int) (a5 : Int) (r : Bool) (w : World) (hr0_0 : Kd.C k44 w A0_0 l0_0.length l0_0) (hc0_0 : l0_0.length ≤ c0_0) (hr0_1 : Kd.C (Kd.int .i64) w A0_1 l0_1.length l0_1) (hc0_1 : l0_1.length ≤ c0_1) (hr0_3 : Kd.C k62 w A0_3 l0_3.length l0_3) (hc0_3 : l0_3.length ≤ c0_3) (hr1 : Kd.C (Kd.int .i64) w A1 l1.length l1) (hc1 : l1.length ≤ c1) (h : tensileref08_Near.f k l0_0 l0_1 a0_2 l0_3 l1 a2 a3 a4 a5 = some r) :
  Calls Try.prog 88 #[.agg #[.slice A0_0 l0_0.length c0_0, .slice A0_1 l0_1.length c0_1, .int .i64 a0_2, .slice A0_3 l0_3.length c0_3], .slice A1 l1.length c1, .int .i64 a2, .int .i64 a3, .int .i64 a4, .int .i64 a5] w fun e w' => e = .returned (.bool r) ∧ Below w.heap.size w w' := by
 have hu26 := Try.underlying26
 have HR0_0 := Aside0.mk hr0_0
 have HC0_0 := Aside0.mk hc0_0
 clear hr0_0 hc0_0
 have HR0_1 := Aside0.mk hr0_1
 have HC0_1 := Aside0.mk hc0_1
 clear hr0_1 hc0_1
 have HR0_3 := Aside0.mk hr0_3
 have HC0_3 := Aside0.mk hc0_3
 clear hr0_3 hc0_3
 have HR1 := Aside0.mk hr1
 have HC1 := Aside0.mk hc1
 clear hr1 hc1
 have HB := Aside0.mk (Below.refl w.heap.size w)
 have H : (tensileref08_Near.l0 k l1 a2 a3 a4 a5 (wrap64 (a5 - a0_2)) l0_0 l0_1 a0_2 l0_3) = some r := h
 clear h
 have H' := Aside0.mk H
 clear H
 go_enter Try.func88, Try.ntmps88
 go_wp2_with (first | ((with_reducible refine gate_dst (N := 6) rfl ?_); refine box_event ?hg (N := 6) ?hd (cs := #[.slice A0_0 l0_0.length c0_0, .slice A0_1 l0_1.length c0_1, .int .i64 a0_2, .slice A0_3 l0_3.length c0_3]) (t := 26) ?hr ?_; (case hd => rfl); (case hg => rfl); (case hr => first | (go_simp; done) | (go_simp; rfl)); intro gb198 hg w7 hbox hb; have n0_ := Aside0.mk (below_step (by repeat (first | (with_reducible first | exact HB.out | apply below_alloc | apply pw_below_drewN | apply below_drew1) | exact HB.out)) hb); have n1_ := Aside0.mk (hbox); have n2_ := Aside0.mk ((by rw [hg]; exact (below_size (by repeat (first | (with_reducible first | exact HB.out | apply below_alloc | apply pw_below_drewN | apply below_drew1) | exact HB.out))) : w.heap.size ≤ gb198)); have n3_ := Aside0.mk ((by rw [hg]; exact (below_size (by repeat (first | (with_reducible first | exact HB.out | apply below_alloc | apply pw_below_drewN | apply below_drew1) | exact HB.out))) : w.heap.size ≤ gb198)); clear HB; have HB := n0_; have BK198 := n1_; have GW198 := n2_; have GE198 := n3_; clear n0_ n1_ n2_ n3_; clear hb hbox hg; have hcz8_0 : w7.cell? ⟨gb198, 0, none⟩ = some (.slice A0_0 l0_0.length c0_0) := (blk_cell BK198.out 0).trans rfl; have hcz8_1 : w7.cell? ⟨gb198, 1, none⟩ = some (.slice A0_1 l0_1.length c0_1) := (blk_cell BK198.out 1).trans rfl; have hcz8_2 : w7.cell? ⟨gb198, 2, none⟩ = some (.int .i64 a0_2) := (blk_cell BK198.out 2).trans rfl; have hcz8_3 : w7.cell? ⟨gb198, 3, none⟩ = some (.slice A0_3 l0_3.length c0_3) := (blk_cell BK198.out 3).trans rfl; have hfz8_0 := blk_frozen BK198.out 0; have hfz8_1 := blk_frozen BK198.out 1; have hfz8_2 := blk_frozen BK198.out 2; have hfz8_3 := blk_frozen BK198.out 3))
 go_loopg [13] k (fun kq v13 w' => ∃ (x13_1 : Int), v13 = .int .i64 x13_1 ∧ Aside0 (tensileref08_Near.l0 kq l1 a2 a3 a4 a5 x13_1 l0_0 l0_1 a0_2 l0_3 = some r) ∧ Aside0 (kq ≤ k) ∧ Aside0 (w'.heap[gb198]? = some (.cells #[(.slice A0_0 l0_0.length c0_0), (.slice A0_1 l0_1.length c0_1), .int .i64 a0_2, (.slice A0_3 l0_3.length c0_3)] 26 (0, 0))) ∧ Aside0 (Below w.heap.size w w'))
 case atStart => exact ⟨(wrap64 (a5 - a0_2)), (by first | rfl | (simp; done) | (simp [*]; done)), H', ⟨Nat.le_refl _⟩, ⟨by (with_reducible repeat (first | refine blk_drewN ?_ _ | refine blk_drew ?_ | refine blk_alloc ?_ _)); exact BK198.out⟩, ⟨by repeat (first | (with_reducible first | exact HB.out | apply below_alloc | apply pw_below_drewN | apply below_drew1 | refine below_set ?_ GE198.out) | exact HB.out)⟩⟩
 case round =>
  clear H'
  try clear c1
  try clear p2
  try clear p6
  try clear c8
  try clear hcz8_0
  try clear hcz8_1
  try clear hcz8_2
  try clear hcz8_3
  try clear hfz8_0
  try clear hfz8_1
  try clear hfz8_2
  try clear hfz8_3
  obtain ⟨x13_1, rfl, HA, HK1, BK198, HB⟩ := hrel
  cases gk with
  | zero => exact absurd HA.out (by simp [tensileref08_Near.l0])
  | succ k1 =>
   have H := HA.out
   clear HA
   simp only [tensileref08_Near.l0] at H
   by_cases c9 : x13_1 ≤ (wrap64 (a5 + a0_2))
   ·rw [if_pos c9] at H
    have c9b0 : decide (x13_1 ≤ (wrap64 (a5 + a0_2))) = true := decide_eq_true c9
    clear c9
    replace H := Option.bind_eq_some_iff.mp H
    obtain ⟨t199, A100, H⟩ := H
    replace H : (if t199 = true then (some true) else (tensileref08_Near.l0 k1 l1 a2 a3 a4 a5 (wrap64 (x13_1 + 1)) l0_0 l0_1 a0_2 l0_3)) = some r := H
    have A10 := Aside0.mk A100
    clear A100
    by_cases c11 : t199 = true
    ·subst c11
     have H1 : (some true) = some r := by rw [if_pos rfl] at H; exact H
     clear H
     have H := H1
     clear H1
     obtain rfl := Option.some.inj H
     have hcz12_0 : wr.cell? ⟨gb198, 0, none⟩ = some (.slice A0_0 l0_0.length c0_0) := (blk_cell BK198.out 0).trans rfl
     have hcz12_1 : wr.cell? ⟨gb198, 1, none⟩ = some (.slice A0_1 l0_1.length c0_1) := (blk_cell BK198.out 1).trans rfl
     have hcz12_2 : wr.cell? ⟨gb198, 2, none⟩ = some (.int .i64 a0_2) := (blk_cell BK198.out 2).trans rfl
     have hcz12_3 : wr.cell? ⟨gb198, 3, none⟩ = some (.slice A0_3 l0_3.length c0_3) := (blk_cell BK198.out 3).trans rfl
     have hfz12_0 := blk_frozen BK198.out 0
     have hfz12_1 := blk_frozen BK198.out 1
     have hfz12_2 := blk_frozen BK198.out 2
     have hfz12_3 := blk_frozen BK198.out 3
     go_wp2_with (first | ((with_reducible refine gate_callee (f := 56) rfl ?_); refine goesL_ (some 32) rfl rfl Try.func56 (by kernel_rfl) rfl #[.agg #[.slice A0_0 l0_0.length c0_0, .slice A0_1 l0_1.length c0_1, .int .i64 a0_2, .slice A0_3 l0_3.length c0_3], .slice A1 l1.length c1, .int .i64 a2, .int .i64 a3, .int .i64 a4, .int .i64 x13_1] rfl (by (try simp only [List.map_toArray, List.map_cons, List.map_nil]); first | done | rfl | (simp only [List.length_drop, List.length_take]; rfl)) ?_; (with_reducible refine (tensileref08_Agrees.calls k1 _ _ l0_0 _ _ l0_1 a0_2 _ _ l0_3 _ _ l1 a2 a3 a4 x13_1 true _ ?side1 ?side2 ?side3 ?side4 ?side5 ?side6 ?side7 ?side8 A10.out).mono ?_); (case side1 => repeat (first | exact (Kd.C_below HR0_0.out HB.out) | (with_reducible refine Kd.C_alloc ?_ _) | (with_reducible refine Kd.C_drewN ?_ _) | (with_reducible refine Kd.C_drew ?_))); (case side2 => exact HC0_0.out); (case side3 => repeat (first | exact (Kd.C_below HR0_1.out HB.out) | (with_reducible refine Kd.C_alloc ?_ _) | (with_reducible refine Kd.C_drewN ?_ _) | (with_reducible refine Kd.C_drew ?_))); (case side4 => exact HC0_1.out); (case side5 => repeat (first | exact (Kd.C_below HR0_3.out HB.out) | (with_reducible refine Kd.C_alloc ?_ _) | (with_reducible refine Kd.C_drewN ?_ _) | (with_reducible refine Kd.C_drew ?_))); (case side6 => exact HC0_3.out); (case side7 => repeat (first | exact (Kd.C_below HR1.out HB.out) | (with_reducible refine Kd.C_alloc ?_ _) | (with_reducible refine Kd.C_drewN ?_ _) | (with_reducible refine Kd.C_drew ?_))); (case side8 => exact HC1.out); rintro e w13 ⟨rfl, hb⟩; refine ⟨_, rfl, ?_⟩; have n0_ := Aside0.mk (blk_below (g := gb198) (o := .cells #[.slice A0_0 l0_0.length c0_0, .slice A0_1 l0_1.length c0_1, .int .i64 a0_2, .slice A0_3 l0_3.length c0_3] 26 (0, 0)) (by (with_reducible repeat (first | refine blk_drewN ?_ _ | refine blk_drew ?_ | refine blk_alloc ?_ _)); exact BK198.out) hb); have n1_ := Aside0.mk (below_step (by repeat (first | (with_reducible first | exact HB.out | apply below_alloc | apply pw_below_drewN | apply below_drew1 | refine below_set ?_ GE198.out) | exact HB.out)) hb); clear BK198; clear HB; have BK198 := n0_; have HB := n1_; clear n0_ n1_; (try clear hb); (try clear hb2); (try clear hk); (try clear hi)))
     go_ret
     exact ⟨by first | rfl | (simp [errW_none, errW_some] <;> rfl) | (simp [*, errW_none, errW_some] <;> rfl), by repeat (first | (with_reducible first | exact HB.out | apply below_alloc | apply pw_below_drewN | apply below_drew1 | refine below_set ?_ GE198.out) | exact HB.out)⟩
    ·replace c11 := Bool.eq_false_iff.mpr c11
     subst c11
     have H1 : (tensileref08_Near.l0 k1 l1 a2 a3 a4 a5 (wrap64 (x13_1 + 1)) l0_0 l0_1 a0_2 l0_3) = some r := by rw [if_neg (show ¬ (false = true) by decide)] at H; exact H
     clear H
     have H := H1
     clear H1
     have H' := Aside0.mk H
     clear H
     have hcz14_0 : wr.cell? ⟨gb198, 0, none⟩ = some (.slice A0_0 l0_0.length c0_0) := (blk_cell BK198.out 0).trans rfl
     have hcz14_1 : wr.cell? ⟨gb198, 1, none⟩ = some (.slice A0_1 l0_1.length c0_1) := (blk_cell BK198.out 1).trans rfl
     have hcz14_2 : wr.cell? ⟨gb198, 2, none⟩ = some (.int .i64 a0_2) := (blk_cell BK198.out 2).trans rfl
     have hcz14_3 : wr.cell? ⟨gb198, 3, none⟩ = some (.slice A0_3 l0_3.length c0_3) := (blk_cell BK198.out 3).trans rfl
     have hfz14_0 := blk_frozen BK198.out 0
     have hfz14_1 := blk_frozen BK198.out 1
     have hfz14_2 := blk_frozen BK198.out 2
     have hfz14_3 := blk_frozen BK198.out 3
     go_wp2_with (first | ((with_reducible refine gate_callee (f := 56) rfl ?_); refine goesL_ (some 32) rfl rfl Try.func56 (by kernel_rfl) rfl #[.agg #[.slice A0_0 l0_0.length c0_0, .slice A0_1 l0_1.length c0_1, .int .i64 a0_2, .slice A0_3 l0_3.length c0_3], .slice A1 l1.length c1, .int .i64 a2, .int .i64 a3, .int .i64 a4, .int .i64 x13_1] rfl (by (try simp only [List.map_toArray, List.map_cons, List.map_nil]); first | done | rfl | (simp only [List.length_drop, List.length_take]; rfl)) ?_; (with_reducible refine (tensileref08_Agrees.calls k1 _ _ l0_0 _ _ l0_1 a0_2 _ _ l0_3 _ _ l1 a2 a3 a4 x13_1 false _ ?side1 ?side2 ?side3 ?side4 ?side5 ?side6 ?side7 ?side8 A10.out).mono ?_); (case side1 => repeat (first | exact (Kd.C_below HR0_0.out HB.out) | (with_reducible refine Kd.C_alloc ?_ _) | (with_reducible refine Kd.C_drewN ?_ _) | (with_reducible refine Kd.C_drew ?_))); (case side2 => exact HC0_0.out); (case side3 => repeat (first | exact (Kd.C_below HR0_1.out HB.out) | (with_reducible refine Kd.C_alloc ?_ _) | (with_reducible refine Kd.C_drewN ?_ _) | (with_reducible refine Kd.C_drew ?_))); (case side4 => exact HC0_1.out); (case side5 => repeat (first | exact (Kd.C_below HR0_3.out HB.out) | (with_reducible refine Kd.C_alloc ?_ _) | (with_reducible refine Kd.C_drewN ?_ _) | (with_reducible refine Kd.C_drew ?_))); (case side6 => exact HC0_3.out); (case side7 => repeat (first | exact (Kd.C_below HR1.out HB.out) | (with_reducible refine Kd.C_alloc ?_ _) | (with_reducible refine Kd.C_drewN ?_ _) | (with_reducible refine Kd.C_drew ?_))); (case side8 => exact HC1.out); rintro e w15 ⟨rfl, hb⟩; refine ⟨_, rfl, ?_⟩; have n0_ := Aside0.mk (blk_below (g := gb198) (o := .cells #[.slice A0_0 l0_0.length c0_0, .slice A0_1 l0_1.length c0_1, .int .i64 a0_2, .slice A0_3 l0_3.length c0_3] 26 (0, 0)) (by (with_reducible repeat (first | refine blk_drewN ?_ _ | refine blk_drew ?_ | refine blk_alloc ?_ _)); exact BK198.out) hb); have n1_ := Aside0.mk (below_step (by repeat (first | (with_reducible first | exact HB.out | apply below_alloc | apply pw_below_drewN | apply below_drew1 | refine below_set ?_ GE198.out) | exact HB.out)) hb); clear BK198; clear HB; have BK198 := n0_; have HB := n1_; clear n0_ n1_; (try clear hb); (try clear hb2); (try clear hk); (try clear hi)))
     go_roundg k1
     case measure => have := HK1.out; omega
     case rel => exact ⟨(wrap64 (x13_1 + 1)), (by first | rfl | (simp; done) | (simp [*]; done)), H', ⟨by have := HK1.out; omega⟩, ⟨by (with_reducible repeat (first | refine blk_drewN ?_ _ | refine blk_drew ?_ | refine blk_alloc ?_ _)); exact BK198.out⟩, ⟨by repeat (first | (with_reducible first | exact HB.out | apply below_alloc | apply pw_below_drewN | apply below_drew1 | refine below_set ?_ GE198.out) | exact HB.out)⟩⟩
   ·rw [if_neg c9] at H
    have c9b0 : decide (x13_1 ≤ (wrap64 (a5 + a0_2))) = false := decide_eq_false c9
    clear c9
    obtain rfl := Option.some.inj H
    have hcz16_0 : wr.cell? ⟨gb198, 0, none⟩ = some (.slice A0_0 l0_0.length c0_0) := (blk_cell BK198.out 0).trans rfl
    have hcz16_1 : wr.cell? ⟨gb198, 1, none⟩ = some (.slice A0_1 l0_1.length c0_1) := (blk_cell BK198.out 1).trans rfl
    have hcz16_2 : wr.cell? ⟨gb198, 2, none⟩ = some (.int .i64 a0_2) := (blk_cell BK198.out 2).trans rfl
    have hcz16_3 : wr.cell? ⟨gb198, 3, none⟩ = some (.slice A0_3 l0_3.length c0_3) := (blk_cell BK198.out 3).trans rfl
    have hfz16_0 := blk_frozen BK198.out 0
    have hfz16_1 := blk_frozen BK198.out 1
    have hfz16_2 := blk_frozen BK198.out 2
    have hfz16_3 := blk_frozen BK198.out 3
    go_wp2
    go_ret
    exact ⟨by first | rfl | (simp [errW_none, errW_some] <;> rfl) | (simp [*, errW_none, errW_some] <;> rfl), by repeat (first | (with_reducible first | exact HB.out | apply below_alloc | apply pw_below_drewN | apply below_drew1 | refine below_set ?_ GE198.out) | exact HB.out)⟩
def tensileref08_LotFits.l0 : Nat → List Int → Int → Int → Int → Int → Int → List (S44) → List Int → Int → List (S62) → Option (Bool)
 | 0, _, _, _, _, _, _, _, _, _, _ => none
 | k + 1, x1, x2, x3, x4, x5, x13, x201000, x201001, x201002, x201003 => if x13 < (x201001.length : Int) then (if 0 ≤ x13 then (if (rd x201001 x13) = x4 then ((tensileref08_Near.f k x201000 x201001 x201002 x201003 x1 x2 x3 x13 x5).bind fun t202 => (if t202 = true then (tensileref08_LotFits.l0 k x1 x2 x3 x4 x5 (wrap64 (x13 + 1)) x201000 x201001 x201002 x201003) else (some false))) else (tensileref08_LotFits.l0 k x1 x2 x3 x4 x5 (wrap64 (x13 + 1)) x201000 x201001 x201002 x201003)) else (none)) else (some true)
def tensileref08_LotFits.f (k : Nat) (l0_0 : List (S44)) (l0_1 : List Int) (a0_2 : Int) (l0_3 : List (S62)) (l1 : List Int) (a2 : Int) (a3 : Int) (a4 : Int) (a5 : Int) : Option (Bool) := tensileref08_LotFits.l0 k l1 a2 a3 a4 a5 0 l0_0 l0_1 a0_2 l0_3
set_option maxHeartbeats 8000000 in
set_option maxRecDepth 100000 in
theorem tensileref08_LotFits.calls (k : Nat) (A0_0 : Option Addr) (c0_0 : Nat) (l0_0 : List (S44)) (A0_1 : Option Addr) (c0_1 : Nat) (l0_1 : List Int) (a0_2 : Int) (A0_3 : Option Addr) (c0_3 : Nat) (l0_3 : List (S62)) (A1 : Option Addr) (c1 : Nat) (l1 : List Int) (a2 : Int) (a3 : Int) (a4 : Int) (a5 : Int) (r : Bool) (w : World) (hr0_0 : Kd.C k44 w A0_0 l0_0.length l0_0) (hc0_0 : l0_0.length ≤ c0_0) (hr0_1 : Kd.C (Kd.int .i64) w A0_1 l0_1.length l0_1) (hc0_1 : l0_1.length ≤ c0_1) (hr0_3 : Kd.C k62 w A0_3 l0_3.length l0_3) (hc0_3 : l0_3.length ≤ c0_3) (hr1 : Kd.C (Kd.int .i64) w A1 l1.length l1) (hc1 : l1.length ≤ c1) (h : tensileref08_LotFits.f k l0_0 l0_1 a0_2 l0_3 l1 a2 a3 a4 a5 = some r) :
  Calls Try.prog 72 #[.agg #[.slice A0_0 l0_0.length c0_0, .slice A0_1 l0_1.length c0_1, .int .i64 a0_2, .slice A0_3 l0_3.length c0_3], .slice A1 l1.length c1, .int .i64 a2, .int .i64 a3, .int .i64 a4, .int .i64 a5] w fun e w' => e = .returned (.bool r) ∧ Below w.heap.size w w' := by
 have hu26 := Try.underlying26
 have HR0_0 := Aside0.mk hr0_0
 have HC0_0 := Aside0.mk hc0_0
 clear hr0_0 hc0_0
 have HR0_1 := Aside0.mk hr0_1
 have HC0_1 := Aside0.mk hc0_1
 clear hr0_1 hc0_1
 have HR0_3 := Aside0.mk hr0_3
 have HC0_3 := Aside0.mk hc0_3
 clear hr0_3 hc0_3
 have HR1 := Aside0.mk hr1
 have HC1 := Aside0.mk hc1
 clear hr1 hc1
 have HB := Aside0.mk (Below.refl w.heap.size w)
 have H : (tensileref08_LotFits.l0 k l1 a2 a3 a4 a5 0 l0_0 l0_1 a0_2 l0_3) = some r := h
 clear h
 have H' := Aside0.mk H
 clear H
 go_enter Try.func72, Try.ntmps72
 go_wp2_with (first | ((with_reducible refine gate_dst (N := 6) rfl ?_); refine box_event ?hg (N := 6) ?hd (cs := #[.slice A0_0 l0_0.length c0_0, .slice A0_1 l0_1.length c0_1, .int .i64 a0_2, .slice A0_3 l0_3.length c0_3]) (t := 26) ?hr ?_; (case hd => rfl); (case hg => rfl); (case hr => first | (go_simp; done) | (go_simp; rfl)); intro gb200 hg w7 hbox hb; have n0_ := Aside0.mk (below_step (by repeat (first | (with_reducible first | exact HB.out | apply below_alloc | apply pw_below_drewN | apply below_drew1) | exact HB.out)) hb); have n1_ := Aside0.mk (hbox); have n2_ := Aside0.mk ((by rw [hg]; exact (below_size (by repeat (first | (with_reducible first | exact HB.out | apply below_alloc | apply pw_below_drewN | apply below_drew1) | exact HB.out))) : w.heap.size ≤ gb200)); have n3_ := Aside0.mk ((by rw [hg]; exact (below_size (by repeat (first | (with_reducible first | exact HB.out | apply below_alloc | apply pw_below_drewN | apply below_drew1) | exact HB.out))) : w.heap.size ≤ gb200)); clear HB; have HB := n0_; have BK200 := n1_; have GW200 := n2_; have GE200 := n3_; clear n0_ n1_ n2_ n3_; clear hb hbox hg))
 go_loopg [13] k (fun kq v13 w' => ∃ (x13_1 : Int), v13 = .int .i64 x13_1 ∧ Aside0 (tensileref08_LotFits.l0 kq l1 a2 a3 a4 a5 x13_1 l0_0 l0_1 a0_2 l0_3 = some r) ∧ Aside0 (kq ≤ k) ∧ Aside0 (w'.heap[gb200]? = some (.cells #[(.slice A0_0 l0_0.length c0_0), (.slice A0_1 l0_1.length c0_1), .int .i64 a0_2, (.slice A0_3 l0_3.length c0_3)] 26 (0, 0))) ∧ Aside0 (Below w.heap.size w w'))
 case atStart => exact ⟨(0), (by first | rfl | (simp; done) | (simp [*]; done)), H', ⟨Nat.le_refl _⟩, ⟨by (with_reducible repeat (first | refine blk_drewN ?_ _ | refine blk_drew ?_ | refine blk_alloc ?_ _)); exact BK200.out⟩, ⟨by repeat (first | (with_reducible first | exact HB.out | apply below_alloc | apply pw_below_drewN | apply below_drew1 | refine below_set ?_ GE200.out) | exact HB.out)⟩⟩
 case round =>
  clear H'
  try clear c1
  try clear p2
  try clear c7
  obtain ⟨x13_1, rfl, HA, HK1, BK200, HB⟩ := hrel
  cases gk with
  | zero => exact absurd HA.out (by simp [tensileref08_LotFits.l0])
  | succ k1 =>
   have H := HA.out
   clear HA
   simp only [tensileref08_LotFits.l0] at H
   by_cases c8 : x13_1 < (l0_1.length : Int)
   ·rw [if_pos c8] at H
    have c8b0 : decide (x13_1 < (l0_1.length : Int)) = true := decide_eq_true c8
    clear c8
    by_cases c9 : 0 ≤ x13_1
    ·rw [if_pos c9] at H
     have c9b0 : decide (0 ≤ x13_1) = true := decide_eq_true c9
     clear c9
     by_cases c10 : (rd l0_1 x13_1) = a4
     ·rw [if_pos c10] at H
      have c10b0 : ((rd l0_1 x13_1) == a4) = true := beq_iff_eq.mpr c10
      have c10b1 : ((rd l0_1 x13_1) != a4) = false := bne_eq_false_iff_eq.mpr c10
      clear c10
      replace H := Option.bind_eq_some_iff.mp H
      obtain ⟨t202, A110, H⟩ := H
      replace H : (if t202 = true then (tensileref08_LotFits.l0 k1 l1 a2 a3 a4 a5 (wrap64 (x13_1 + 1)) l0_0 l0_1 a0_2 l0_3) else (some false)) = some r := H
      have A11 := Aside0.mk A110
      clear A110
      by_cases c12 : t202 = true
      ·subst c12
       have H1 : (tensileref08_LotFits.l0 k1 l1 a2 a3 a4 a5 (wrap64 (x13_1 + 1)) l0_0 l0_1 a0_2 l0_3) = some r := by rw [if_pos rfl] at H; exact H
       clear H
       have H := H1
       clear H1
       have H' := Aside0.mk H
       clear H
       have hcz13_0 : wr.cell? ⟨gb200, 0, none⟩ = some (.slice A0_0 l0_0.length c0_0) := (blk_cell BK200.out 0).trans rfl
       have hcz13_1 : wr.cell? ⟨gb200, 1, none⟩ = some (.slice A0_1 l0_1.length c0_1) := (blk_cell BK200.out 1).trans rfl
       have hcz13_2 : wr.cell? ⟨gb200, 2, none⟩ = some (.int .i64 a0_2) := (blk_cell BK200.out 2).trans rfl
       have hcz13_3 : wr.cell? ⟨gb200, 3, none⟩ = some (.slice A0_3 l0_3.length c0_3) := (blk_cell BK200.out 3).trans rfl
       have hfz13_0 := blk_frozen BK200.out 0
       have hfz13_1 := blk_frozen BK200.out 1
       have hfz13_2 := blk_frozen BK200.out 2
       have hfz13_3 := blk_frozen BK200.out 3
       have p201 : 0 ≤ (x13_1 : Int) := of_decide_eq_true (by first | (with_reducible assumption) | assumption)
       have q201 : x13_1 < (l0_1.length : Int) := of_decide_eq_true (by first | (with_reducible assumption) | assumption)
       obtain ⟨ad201, e201, hx201_0⟩ := Kd.at_int HR0_1.out x13_1 p201 q201
       cases e201
       replace hx201_0 := (HB.out.cell (World.block_lt_of_cell? w _ hx201_0)).trans hx201_0
       replace p201 := eq_true p201
       replace q201 := eq_true q201
       go_wp2_with (first | (go_at_call 88; (with_reducible refine (tensileref08_Near.calls k1 _ _ l0_0 _ _ l0_1 a0_2 _ _ l0_3 _ _ l1 a2 a3 x13_1 a5 true _ ?side1 ?side2 ?side3 ?side4 ?side5 ?side6 ?side7 ?side8 A11.out).mono ?_); (case side1 => repeat (first | exact (Kd.C_below HR0_0.out HB.out) | (with_reducible refine Kd.C_alloc ?_ _) | (with_reducible refine Kd.C_drewN ?_ _) | (with_reducible refine Kd.C_drew ?_))); (case side2 => exact HC0_0.out); (case side3 => repeat (first | exact (Kd.C_below HR0_1.out HB.out) | (with_reducible refine Kd.C_alloc ?_ _) | (with_reducible refine Kd.C_drewN ?_ _) | (with_reducible refine Kd.C_drew ?_))); (case side4 => exact HC0_1.out); (case side5 => repeat (first | exact (Kd.C_below HR0_3.out HB.out) | (with_reducible refine Kd.C_alloc ?_ _) | (with_reducible refine Kd.C_drewN ?_ _) | (with_reducible refine Kd.C_drew ?_))); (case side6 => exact HC0_3.out); (case side7 => repeat (first | exact (Kd.C_below HR1.out HB.out) | (with_reducible refine Kd.C_alloc ?_ _) | (with_reducible refine Kd.C_drewN ?_ _) | (with_reducible refine Kd.C_drew ?_))); (case side8 => exact HC1.out); rintro e w14 ⟨rfl, hb⟩; have n0_ := Aside0.mk (blk_below (g := gb200) (o := .cells #[.slice A0_0 l0_0.length c0_0, .slice (some ad201) l0_1.length c0_1, .int .i64 a0_2, .slice A0_3 l0_3.length c0_3] 26 (0, 0)) (by (with_reducible repeat (first | refine blk_drewN ?_ _ | refine blk_drew ?_ | refine blk_alloc ?_ _)); exact BK200.out) hb); have n1_ := Aside0.mk (below_step (by repeat (first | (with_reducible first | exact HB.out | apply below_alloc | apply pw_below_drewN | apply below_drew1 | refine below_set ?_ GE200.out) | exact HB.out)) hb); clear BK200; clear HB; have BK200 := n0_; have HB := n1_; clear n0_ n1_; (try clear hb); (try clear hb2); (try clear hk); (try clear hi)))
       go_roundg k1
       case measure => have := HK1.out; omega
       case rel => exact ⟨(wrap64 (x13_1 + 1)), (by first | rfl | (simp; done) | (simp [*]; done)), H', ⟨by have := HK1.out; omega⟩, ⟨by (with_reducible repeat (first | refine blk_drewN ?_ _ | refine blk_drew ?_ | refine blk_alloc ?_ _)); exact BK200.out⟩, ⟨by repeat (first | (with_reducible first | exact HB.out | apply below_alloc | apply pw_below_drewN | apply below_drew1 | refine below_set ?_ GE200.out) | exact HB.out)⟩⟩
      ·replace c12 := Bool.eq_false_iff.mpr c12
       subst c12
       have H1 : (some false) = some r := by rw [if_neg (show ¬ (false = true) by decide)] at H; exact H
       clear H
       have H := H1
       clear H1
       obtain rfl := Option.some.inj H
       have hcz15_0 : wr.cell? ⟨gb200, 0, none⟩ = some (.slice A0_0 l0_0.length c0_0) := (blk_cell BK200.out 0).trans rfl
       have hcz15_1 : wr.cell? ⟨gb200, 1, none⟩ = some (.slice A0_1 l0_1.length c0_1) := (blk_cell BK200.out 1).trans rfl
       have hcz15_2 : wr.cell? ⟨gb200, 2, none⟩ = some (.int .i64 a0_2) := (blk_cell BK200.out 2).trans rfl
       have hcz15_3 : wr.cell? ⟨gb200, 3, none⟩ = some (.slice A0_3 l0_3.length c0_3) := (blk_cell BK200.out 3).trans rfl
       have hfz15_0 := blk_frozen BK200.out 0
       have hfz15_1 := blk_frozen BK200.out 1
       have hfz15_2 := blk_frozen BK200.out 2
       have hfz15_3 := blk_frozen BK200.out 3
       have p201 : 0 ≤ (x13_1 : Int) := of_decide_eq_true (by first | (with_reducible assumption) | assumption)
       have q201 : x13_1 < (l0_1.length : Int) := of_decide_eq_true (by first | (with_reducible assumption) | assumption)
       obtain ⟨ad201, e201, hx201_0⟩ := Kd.at_int HR0_1.out x13_1 p201 q201
       cases e201
       replace hx201_0 := (HB.out.cell (World.block_lt_of_cell? w _ hx201_0)).trans hx201_0
       replace p201 := eq_true p201
       replace q201 := eq_true q201
       go_wp2_with (first | (go_at_call 88; (with_reducible refine (tensileref08_Near.calls k1 _ _ l0_0 _ _ l0_1 a0_2 _ _ l0_3 _ _ l1 a2 a3 x13_1 a5 false _ ?side1 ?side2 ?side3 ?side4 ?side5 ?side6 ?side7 ?side8 A11.out).mono ?_); (case side1 => repeat (first | exact (Kd.C_below HR0_0.out HB.out) | (with_reducible refine Kd.C_alloc ?_ _) | (with_reducible refine Kd.C_drewN ?_ _) | (with_reducible refine Kd.C_drew ?_))); (case side2 => exact HC0_0.out); (case side3 => repeat (first | exact (Kd.C_below HR0_1.out HB.out) | (with_reducible refine Kd.C_alloc ?_ _) | (with_reducible refine Kd.C_drewN ?_ _) | (with_reducible refine Kd.C_drew ?_))); (case side4 => exact HC0_1.out); (case side5 => repeat (first | exact (Kd.C_below HR0_3.out HB.out) | (with_reducible refine Kd.C_alloc ?_ _) | (with_reducible refine Kd.C_drewN ?_ _) | (with_reducible refine Kd.C_drew ?_))); (case side6 => exact HC0_3.out); (case side7 => repeat (first | exact (Kd.C_below HR1.out HB.out) | (with_reducible refine Kd.C_alloc ?_ _) | (with_reducible refine Kd.C_drewN ?_ _) | (with_reducible refine Kd.C_drew ?_))); (case side8 => exact HC1.out); rintro e w16 ⟨rfl, hb⟩; have n0_ := Aside0.mk (blk_below (g := gb200) (o := .cells #[.slice A0_0 l0_0.length c0_0, .slice (some ad201) l0_1.length c0_1, .int .i64 a0_2, .slice A0_3 l0_3.length c0_3] 26 (0, 0)) (by (with_reducible repeat (first | refine blk_drewN ?_ _ | refine blk_drew ?_ | refine blk_alloc ?_ _)); exact BK200.out) hb); have n1_ := Aside0.mk (below_step (by repeat (first | (with_reducible first | exact HB.out | apply below_alloc | apply pw_below_drewN | apply below_drew1 | refine below_set ?_ GE200.out) | exact HB.out)) hb); clear BK200; clear HB; have BK200 := n0_; have HB := n1_; clear n0_ n1_; (try clear hb); (try clear hb2); (try clear hk); (try clear hi)))
       go_ret
       exact ⟨by first | rfl | (simp [errW_none, errW_some] <;> rfl) | (simp [*, errW_none, errW_some] <;> rfl), by repeat (first | (with_reducible first | exact HB.out | apply below_alloc | apply pw_below_drewN | apply below_drew1 | refine below_set ?_ GE200.out) | exact HB.out)⟩
     ·rw [if_neg c10] at H
      have c10b0 : ((rd l0_1 x13_1) == a4) = false := beq_eq_false_iff_ne.mpr c10
      have c10b1 : ((rd l0_1 x13_1) != a4) = true := bne_iff_ne.mpr c10
      have H' := Aside0.mk H
      clear H
      have hcz17_0 : wr.cell? ⟨gb200, 0, none⟩ = some (.slice A0_0 l0_0.length c0_0) := (blk_cell BK200.out 0).trans rfl
      have hcz17_1 : wr.cell? ⟨gb200, 1, none⟩ = some (.slice A0_1 l0_1.length c0_1) := (blk_cell BK200.out 1).trans rfl
      have hcz17_2 : wr.cell? ⟨gb200, 2, none⟩ = some (.int .i64 a0_2) := (blk_cell BK200.out 2).trans rfl
      have hcz17_3 : wr.cell? ⟨gb200, 3, none⟩ = some (.slice A0_3 l0_3.length c0_3) := (blk_cell BK200.out 3).trans rfl
      have hfz17_0 := blk_frozen BK200.out 0
      have hfz17_1 := blk_frozen BK200.out 1
      have hfz17_2 := blk_frozen BK200.out 2
      have hfz17_3 := blk_frozen BK200.out 3
      have p201 : 0 ≤ (x13_1 : Int) := of_decide_eq_true (by first | (with_reducible assumption) | assumption)
      have q201 : x13_1 < (l0_1.length : Int) := of_decide_eq_true (by first | (with_reducible assumption) | assumption)
      obtain ⟨ad201, e201, hx201_0⟩ := Kd.at_int HR0_1.out x13_1 p201 q201
      cases e201
      replace hx201_0 := (HB.out.cell (World.block_lt_of_cell? w _ hx201_0)).trans hx201_0
      replace p201 := eq_true p201
      replace q201 := eq_true q201
      go_wp2
      go_roundg k1
      case measure => have := HK1.out; omega
      case rel => exact ⟨(wrap64 (x13_1 + 1)), (by first | rfl | (simp; done) | (simp [*]; done)), H', ⟨by have := HK1.out; omega⟩, ⟨by (with_reducible repeat (first | refine blk_drewN ?_ _ | refine blk_drew ?_ | refine blk_alloc ?_ _)); exact BK200.out⟩, ⟨by repeat (first | (with_reducible first | exact HB.out | apply below_alloc | apply pw_below_drewN | apply below_drew1 | refine below_set ?_ GE200.out) | exact HB.out)⟩⟩
    ·rw [if_neg c9] at H
     exact absurd H (by simp)
   ·rw [if_neg c8] at H
    have c8b0 : decide (x13_1 < (l0_1.length : Int)) = false := decide_eq_false c8
    clear c8
    obtain rfl := Option.some.inj H
    have hcz18_0 : wr.cell? ⟨gb200, 0, none⟩ = some (.slice A0_0 l0_0.length c0_0) := (blk_cell BK200.out 0).trans rfl
    have hcz18_1 : wr.cell? ⟨gb200, 1, none⟩ = some (.slice A0_1 l0_1.length c0_1) := (blk_cell BK200.out 1).trans rfl
    have hcz18_2 : wr.cell? ⟨gb200, 2, none⟩ = some (.int .i64 a0_2) := (blk_cell BK200.out 2).trans rfl
    have hcz18_3 : wr.cell? ⟨gb200, 3, none⟩ = some (.slice A0_3 l0_3.length c0_3) := (blk_cell BK200.out 3).trans rfl
    have hfz18_0 := blk_frozen BK200.out 0
    have hfz18_1 := blk_frozen BK200.out 1
    have hfz18_2 := blk_frozen BK200.out 2
    have hfz18_3 := blk_frozen BK200.out 3
    go_wp2
    go_ret
    exact ⟨by first | rfl | (simp [errW_none, errW_some] <;> rfl) | (simp [*, errW_none, errW_some] <;> rfl), by repeat (first | (with_reducible first | exact HB.out | apply below_alloc | apply pw_below_drewN | apply below_drew1 | refine below_set ?_ GE200.out) | exact HB.out)⟩
mutual
def tensileref08_Lots.l0 : Nat → List Int → Int → Int → List (List Int) → Bool → Int → List (S44) → List Int → Int → List (S62) → Option ((List (List Int)) × Bool)
 | 0, _, _, _, _, _, _, _, _, _, _ => none
 | k + 1, x1, x2, x3, x10, x11, x12, x204000, x204001, x204002, x204003 => if x12 < (x204000.length : Int) then (if 0 ≤ x12 then (tensileref08_Lots.l1 k x1 x2 x3 x10 x11 x12 ([] : List Int) ((rd_T44 x204000 x12).f0) x204000 x204001 x204002 x204003) else (none)) else (some (x10, x11))
def tensileref08_Lots.l1 : Nat → List Int → Int → Int → List (List Int) → Bool → Int → List Int → Int → List (S44) → List Int → Int → List (S62) → Option ((List (List Int)) × Bool)
 | 0, _, _, _, _, _, _, _, _, _, _, _, _ => none
 | k + 1, x1, x2, x3, x10, x11, x12, x13, x14, x204000, x204001, x204002, x204003 => if 0 ≤ x12 then (if x12 < (x204000.length : Int) then (if x14 ≤ ((rd_T44 x204000 x12).f1) then ((tensileref08_LotFits.f k x204000 x204001 x204002 x204003 x1 x2 x3 x12 x14).bind fun t206 => (if t206 = true then (if x13.length < 17592186044416 then (tensileref08_Lots.l1 k x1 x2 x3 x10 x11 x12 (x13 ++ [x14]) (wrap64 (x14 + 1)) x204000 x204001 x204002 x204003) else (none)) else (tensileref08_Lots.l1 k x1 x2 x3 x10 x11 x12 x13 (wrap64 (x14 + 1)) x204000 x204001 x204002 x204003))) else (if x10.length < 5864062014805 then ((some (x10 ++ [x13] : List (List Int))).bind fun y210 => (if x11 = true then (tensileref08_Lots.l0 k x1 x2 x3 y210 (decide ((x13.length : Int) > 0)) (wrap64 (x12 + 1)) x204000 x204001 x204002 x204003) else (tensileref08_Lots.l0 k x1 x2 x3 y210 false (wrap64 (x12 + 1)) x204000 x204001 x204002 x204003))) else (none))) else (none)) else (none)
end
def tensileref08_Lots.f (k : Nat) (l0_0 : List (S44)) (l0_1 : List Int) (a0_2 : Int) (l0_3 : List (S62)) (l1 : List Int) (a2 : Int) (a3 : Int) : Option ((List (List Int)) × Bool) := tensileref08_Lots.l0 k l1 a2 a3 ([] : List (List Int)) true 0 l0_0 l0_1 a0_2 l0_3
set_option maxHeartbeats 8000000 in
set_option maxRecDepth 100000 in
theorem tensileref08_Lots.calls (k : Nat) (A0_0 : Option Addr) (c0_0 : Nat) (l0_0 : List (S44)) (A0_1 : Option Addr) (c0_1 : Nat) (l0_1 : List Int) (a0_2 : Int) (A0_3 : Option Addr) (c0_3 : Nat) (l0_3 : List (S62)) (A1 : Option Addr) (c1 : Nat) (l1 : List Int) (a2 : Int) (a3 : Int) (r1 : List (List Int)) (r2 : Bool) (w : World) (hr0_0 : Kd.C k44 w A0_0 l0_0.length l0_0) (hc0_0 : l0_0.length ≤ c0_0) (hr0_1 : Kd.C (Kd.int .i64) w A0_1 l0_1.length l0_1) (hc0_1 : l0_1.length ≤ c0_1) (hr0_3 : Kd.C k62 w A0_3 l0_3.length l0_3) (hc0_3 : l0_3.length ≤ c0_3) (hr1 : Kd.C (Kd.int .i64) w A1 l1.length l1) (hc1 : l1.length ≤ c1) (h : tensileref08_Lots.f k l0_0 l0_1 a0_2 l0_3 l1 a2 a3 = some (r1, r2)) :
  Calls Try.prog 53 #[.agg #[.slice A0_0 l0_0.length c0_0, .slice A0_1 l0_1.length c0_1, .int .i64 a0_2, .slice A0_3 l0_3.length c0_3], .slice A1 l1.length c1, .int .i64 a2, .int .i64 a3] w fun e w' => ∃ v0_ : Value, e = .returned (.tuple #[v0_, .bool r2]) ∧ Kd.S (Kd.slice 3 (Kd.int .i64)) 23 w' w.heap.size (fun _ => True) v0_ r1 ∧ Below w.heap.size w w' := by
 have hu26 := Try.underlying26
 have HR0_0 := Aside0.mk hr0_0
 have HC0_0 := Aside0.mk hc0_0
 clear hr0_0 hc0_0
 have HR0_1 := Aside0.mk hr0_1
 have HC0_1 := Aside0.mk hc0_1
 clear hr0_1 hc0_1
 have HR0_3 := Aside0.mk hr0_3
 have HC0_3 := Aside0.mk hc0_3
 clear hr0_3 hc0_3
 have HR1 := Aside0.mk hr1
 have HC1 := Aside0.mk hc1
 clear hr1 hc1
 have HB := Aside0.mk (Below.refl w.heap.size w)
 have H : (tensileref08_Lots.l0 k l1 a2 a3 ([] : List (List Int)) true 0 l0_0 l0_1 a0_2 l0_3) = some (r1, r2) := h
 clear h
 have H' := Aside0.mk H
 clear H
 go_enter Try.func53, Try.ntmps53
 go_wp2_with (first | ((with_reducible refine gate_dst (N := 4) rfl ?_); (try (refine gate_guard (by rfl) ?_; dsimp only)); refine box_event ?hg (N := 4) ?hd (cs := #[.slice A0_0 l0_0.length c0_0, .slice A0_1 l0_1.length c0_1, .int .i64 a0_2, .slice A0_3 l0_3.length c0_3]) (t := 26) ?hr ?_; (case hd => rfl); (case hg => rfl); (case hr => first | (go_simp; done) | (go_simp; rfl)); intro gb203 hg w5 hbox hb; have n0_ := Aside0.mk (below_step (by repeat (first | (with_reducible first | exact HB.out | apply below_alloc | apply pw_below_drewN | apply below_drew1) | exact HB.out)) hb); have n1_ := Aside0.mk (hbox); have n2_ := Aside0.mk ((by rw [hg]; exact (below_size (by repeat (first | (with_reducible first | exact HB.out | apply below_alloc | apply pw_below_drewN | apply below_drew1) | exact HB.out))) : w.heap.size ≤ gb203)); have n3_ := Aside0.mk ((by rw [hg]; exact (below_size (by repeat (first | (with_reducible first | exact HB.out | apply below_alloc | apply pw_below_drewN | apply below_drew1) | exact HB.out))) : w.heap.size ≤ gb203)); clear HB; have HB := n0_; have BK203 := n1_; have GW203 := n2_; have GE203 := n3_; clear n0_ n1_ n2_ n3_; clear hb hbox hg))
 go_loopg [10, 11, 12] k (fun kq v10 v11 v12 w' => ∃ (x10_1 : List (List Int)) (x11_1 : Bool) (x12_1 : Int), v11 = .bool x11_1 ∧ v12 = .int .i64 x12_1 ∧ Aside0 (tensileref08_Lots.l0 kq l1 a2 a3 x10_1 x11_1 x12_1 l0_0 l0_1 a0_2 l0_3 = some (r1, r2)) ∧ Aside0 (kq ≤ k) ∧ Aside0 (Kd.S (Kd.slice 3 (Kd.int .i64)) 23 w' w.heap.size (fun _ => True) v10 x10_1) ∧ Aside0 (w'.heap[gb203]? = some (.cells #[(.slice A0_0 l0_0.length c0_0), (.slice A0_1 l0_1.length c0_1), .int .i64 a0_2, (.slice A0_3 l0_3.length c0_3)] 26 (0, 0))) ∧ Aside0 (Below w.heap.size w w'))
 case atStart => exact ⟨(([] : List (List Int))), (true), (0), (by first | rfl | (simp; done) | (simp [*]; done)), (by first | rfl | (simp; done) | (simp [*]; done)), H', ⟨Nat.le_refl _⟩, ⟨by first | exact Kd.S_nil _ _ _ _ _ | exact Kd.N_nil _ _ _ _ _ | exact Kd.V_nil _ _ _ _ _ | exact Kd.Q_nil _ _ _ _ _ | exact Kd.R_nil _ _ _ _ _⟩, ⟨by (with_reducible repeat (first | refine blk_drewN ?_ _ | refine blk_drew ?_ | refine blk_alloc ?_ _)); exact BK203.out⟩, ⟨by repeat (first | (with_reducible first | exact HB.out | apply below_alloc | apply pw_below_drewN | apply below_drew1 | refine below_set ?_ GE203.out) | exact HB.out)⟩⟩
 case round =>
  clear H'
  try clear c1
  try clear p2
  try clear c5
  obtain ⟨x10_1, x11_1, x12_1, rfl, rfl, HA, HK1, HO_10, BK203, HB⟩ := hrel
  cases gk with
  | zero => exact absurd HA.out (by simp [tensileref08_Lots.l0])
  | succ k1 =>
   have H := HA.out
   clear HA
   simp only [tensileref08_Lots.l0] at H
   by_cases c6 : x12_1 < (l0_0.length : Int)
   ·rw [if_pos c6] at H
    have c6b0 : decide (x12_1 < (l0_0.length : Int)) = true := decide_eq_true c6
    clear c6
    by_cases c7 : 0 ≤ x12_1
    ·rw [if_pos c7] at H
     have c7b0 : decide (0 ≤ x12_1) = true := decide_eq_true c7
     clear c7
     have H' := Aside0.mk H
     clear H
     have hcz8_0 : wr.cell? ⟨gb203, 0, none⟩ = some (.slice A0_0 l0_0.length c0_0) := (blk_cell BK203.out 0).trans rfl
     have hcz8_1 : wr.cell? ⟨gb203, 1, none⟩ = some (.slice A0_1 l0_1.length c0_1) := (blk_cell BK203.out 1).trans rfl
     have hcz8_2 : wr.cell? ⟨gb203, 2, none⟩ = some (.int .i64 a0_2) := (blk_cell BK203.out 2).trans rfl
     have hcz8_3 : wr.cell? ⟨gb203, 3, none⟩ = some (.slice A0_3 l0_3.length c0_3) := (blk_cell BK203.out 3).trans rfl
     have hfz8_0 := blk_frozen BK203.out 0
     have hfz8_1 := blk_frozen BK203.out 1
     have hfz8_2 := blk_frozen BK203.out 2
     have hfz8_3 := blk_frozen BK203.out 3
     have p204 : 0 ≤ (x12_1 : Int) := of_decide_eq_true (by first | (with_reducible assumption) | assumption)
     have q204 : x12_1 < (l0_0.length : Int) := of_decide_eq_true (by first | (with_reducible assumption) | assumption)
     obtain ⟨ad204, e204, hx204_0, hx204_1⟩ := at_T44 HR0_0.out x12_1 p204 q204
     cases e204
     replace hx204_0 := (HB.out.cell (World.block_lt_of_cell? w _ hx204_0)).trans hx204_0
     replace hx204_1 := (HB.out.cell (World.block_lt_of_cell? w _ hx204_1)).trans hx204_1
     replace p204 := eq_true p204
     replace q204 := eq_true q204
     go_wp2
     go_loopg [13, 14] k1 (fun kq v13 v14 w' => ∃ (x13_2 : List Int) (x14_2 : Int), v14 = .int .i64 x14_2 ∧ Aside0 (tensileref08_Lots.l1 kq l1 a2 a3 x10_1 x11_1 x12_1 x13_2 x14_2 l0_0 l0_1 a0_2 l0_3 = some (r1, r2)) ∧ Aside0 (kq ≤ k1) ∧ Aside0 (Kd.S (Kd.slice 3 (Kd.int .i64)) 23 w' w.heap.size (fun k_ => some k_ ≠ (v13 : Value).ownBlock) u10 x10_1) ∧ Aside0 (Kd.R (Kd.int .i64) 3 w' w.heap.size (fun _ => True) v13 x13_2) ∧ Aside0 (w'.heap[gb203]? = some (.cells #[(.slice (some ad204) l0_0.length c0_0), (.slice A0_1 l0_1.length c0_1), .int .i64 a0_2, (.slice A0_3 l0_3.length c0_3)] 26 (0, 0))) ∧ Aside0 (Below w.heap.size w w'))
     case atStart => exact ⟨(([] : List Int)), ((rd_T44 l0_0 x12_1).f0), (by first | rfl | (simp; done) | (simp [*]; done)), H', ⟨Nat.le_refl _⟩, ⟨by (with_reducible repeat (first | apply Kd.S_alloc | apply Kd.S_drewN | apply Kd.S_drew)); exact Kd.S_mono HO_10.out (fun _ hk => (by simp [Value.ownBlock]))⟩, ⟨by first | exact Kd.R_nil _ _ _ _ _ | exact Kd.N_nil _ _ _ _ _ | exact Kd.V_nil _ _ _ _ _ | exact Kd.Q_nil _ _ _ _ _ | exact Kd.S_nil _ _ _ _ _⟩, ⟨by (with_reducible repeat (first | refine blk_drewN ?_ _ | refine blk_drew ?_ | refine blk_alloc ?_ _)); exact BK203.out⟩, ⟨by repeat (first | (with_reducible first | exact HB.out | apply below_alloc | apply pw_below_drewN | apply below_drew1 | refine below_set ?_ GE203.out) | exact HB.out)⟩⟩
     case round =>
      clear H'
      try clear c1
      try clear p2
      try clear q2
      try clear hx2
      try clear c5
      try clear c6
      try clear c6b0
      try clear c7
      try clear c7b0
      try clear hcz8_0
      try clear hcz8_1
      try clear hcz8_2
      try clear hcz8_3
      try clear hfz8_0
      try clear hfz8_1
      try clear hfz8_2
      try clear hfz8_3
      try clear hx204_0
      try clear hx204_1
      try clear p2
      try clear p204
      try clear q204
      obtain ⟨x13_2, x14_2, rfl, HA, HK2, HO_10, HO_13, BK203, HB⟩ := hrel
      cases gk with
      | zero => exact absurd HA.out (by simp [tensileref08_Lots.l1])
      | succ k2 =>
       have H := HA.out
       clear HA
       simp only [tensileref08_Lots.l1] at H
       by_cases c9 : 0 ≤ x12_1
       ·rw [if_pos c9] at H
        have c9b0 : decide (0 ≤ x12_1) = true := decide_eq_true c9
        clear c9
        by_cases c10 : x12_1 < (l0_0.length : Int)
        ·rw [if_pos c10] at H
         have c10b0 : decide (x12_1 < (l0_0.length : Int)) = true := decide_eq_true c10
         clear c10
         by_cases c11 : x14_2 ≤ ((rd_T44 l0_0 x12_1).f1)
         ·rw [if_pos c11] at H
          have c11b0 : decide (x14_2 ≤ ((rd_T44 l0_0 x12_1).f1)) = true := decide_eq_true c11
          clear c11
          replace H := Option.bind_eq_some_iff.mp H
          obtain ⟨t206, A120, H⟩ := H
          replace H : (if t206 = true then (if x13_2.length < 17592186044416 then (tensileref08_Lots.l1 k2 l1 a2 a3 x10_1 x11_1 x12_1 (x13_2 ++ [x14_2]) (wrap64 (x14_2 + 1)) l0_0 l0_1 a0_2 l0_3) else (none)) else (tensileref08_Lots.l1 k2 l1 a2 a3 x10_1 x11_1 x12_1 x13_2 (wrap64 (x14_2 + 1)) l0_0 l0_1 a0_2 l0_3)) = some (r1, r2) := H
          have A12 := Aside0.mk A120
          clear A120
          by_cases c13 : t206 = true
          ·subst c13
           have H1 : (if x13_2.length < 17592186044416 then (tensileref08_Lots.l1 k2 l1 a2 a3 x10_1 x11_1 x12_1 (x13_2 ++ [x14_2]) (wrap64 (x14_2 + 1)) l0_0 l0_1 a0_2 l0_3) else (none)) = some (r1, r2) := by rw [if_pos rfl] at H; exact H
           clear H
           have H := H1
           clear H1
           by_cases c14 : x13_2.length < 17592186044416
           ·rw [if_pos c14] at H
            have LMc14 := Aside0.mk c14
            clear c14
            obtain ⟨y207, hy207⟩ : ∃ y_ : List Int, y_ = (x13_2 ++ [x14_2]) := ⟨_, rfl⟩
            replace H : (tensileref08_Lots.l1 k2 l1 a2 a3 x10_1 x11_1 x12_1 y207 (wrap64 (x14_2 + 1)) l0_0 l0_1 a0_2 l0_3) = some (r1, r2) := by first | (rw [hy207]; with_reducible exact H) | (have H2_ := (Option.bind_some _ _).symm.trans H; rw [hy207]; with_reducible exact H2_) | (have H2_ := (Option.bind_some _ _).symm.trans H; with_reducible exact H2_) | with_reducible exact H | (rw [hy207]; exact H) | exact H
            have Ny207 := Aside0.mk hy207
            clear hy207
            have H' := Aside0.mk H
            clear H
            have hcz15_0 : wr.cell? ⟨gb203, 0, none⟩ = some (.slice (some ad204) l0_0.length c0_0) := (blk_cell BK203.out 0).trans rfl
            have hcz15_1 : wr.cell? ⟨gb203, 1, none⟩ = some (.slice A0_1 l0_1.length c0_1) := (blk_cell BK203.out 1).trans rfl
            have hcz15_2 : wr.cell? ⟨gb203, 2, none⟩ = some (.int .i64 a0_2) := (blk_cell BK203.out 2).trans rfl
            have hcz15_3 : wr.cell? ⟨gb203, 3, none⟩ = some (.slice A0_3 l0_3.length c0_3) := (blk_cell BK203.out 3).trans rfl
            have hfz15_0 := blk_frozen BK203.out 0
            have hfz15_1 := blk_frozen BK203.out 1
            have hfz15_2 := blk_frozen BK203.out 2
            have hfz15_3 := blk_frozen BK203.out 3
            have p205 : 0 ≤ (x12_1 : Int) := of_decide_eq_true (by first | (with_reducible assumption) | assumption)
            have q205 : x12_1 < (l0_0.length : Int) := of_decide_eq_true (by first | (with_reducible assumption) | assumption)
            obtain ⟨ad205, e205, hx205_0, hx205_1⟩ := at_T44 HR0_0.out x12_1 p205 q205
            obtain rfl : ad204 = ad205 := (by injection e205)
            replace hx205_0 := (HB.out.cell (World.block_lt_of_cell? w _ hx205_0)).trans hx205_0
            replace hx205_1 := (HB.out.cell (World.block_lt_of_cell? w _ hx205_1)).trans hx205_1
            replace p205 := eq_true p205
            replace q205 := eq_true q205
            go_wp2_with (first | ((with_reducible refine gate_callee (f := 72) rfl ?_); refine goesL_ (some 44) rfl rfl Try.func72 (by kernel_rfl) rfl #[.agg #[.slice (some ad204) l0_0.length c0_0, .slice A0_1 l0_1.length c0_1, .int .i64 a0_2, .slice A0_3 l0_3.length c0_3], .slice A1 l1.length c1, .int .i64 a2, .int .i64 a3, .int .i64 x12_1, .int .i64 x14_2] rfl (by (try simp only [List.map_toArray, List.map_cons, List.map_nil]); first | done | rfl | (simp only [List.length_drop, List.length_take]; rfl)) ?_; (with_reducible refine (tensileref08_LotFits.calls k2 _ _ l0_0 _ _ l0_1 a0_2 _ _ l0_3 _ _ l1 a2 a3 x12_1 x14_2 true _ ?side1 ?side2 ?side3 ?side4 ?side5 ?side6 ?side7 ?side8 A12.out).mono ?_); (case side1 => repeat (first | exact (Kd.C_below HR0_0.out HB.out) | (with_reducible refine Kd.C_alloc ?_ _) | (with_reducible refine Kd.C_drewN ?_ _) | (with_reducible refine Kd.C_drew ?_))); (case side2 => exact HC0_0.out); (case side3 => repeat (first | exact (Kd.C_below HR0_1.out HB.out) | (with_reducible refine Kd.C_alloc ?_ _) | (with_reducible refine Kd.C_drewN ?_ _) | (with_reducible refine Kd.C_drew ?_))); (case side4 => exact HC0_1.out); (case side5 => repeat (first | exact (Kd.C_below HR0_3.out HB.out) | (with_reducible refine Kd.C_alloc ?_ _) | (with_reducible refine Kd.C_drewN ?_ _) | (with_reducible refine Kd.C_drew ?_))); (case side6 => exact HC0_3.out); (case side7 => repeat (first | exact (Kd.C_below HR1.out HB.out) | (with_reducible refine Kd.C_alloc ?_ _) | (with_reducible refine Kd.C_drewN ?_ _) | (with_reducible refine Kd.C_drew ?_))); (case side8 => exact HC1.out); rintro e w16 ⟨rfl, hb⟩; refine ⟨_, rfl, ?_⟩; have n0_ := Aside0.mk (Kd.S_below (by (with_reducible repeat (first | apply Kd.S_alloc | apply Kd.S_drewN | apply Kd.S_drew)); exact HO_10.out) hb); have n1_ := Aside0.mk (Kd.R_below (by (with_reducible repeat (first | apply Kd.R_alloc | apply Kd.R_drewN | apply Kd.R_drew)); exact HO_13.out) hb); have n2_ := Aside0.mk (blk_below (g := gb203) (o := .cells #[.slice (some ad204) l0_0.length c0_0, .slice A0_1 l0_1.length c0_1, .int .i64 a0_2, .slice A0_3 l0_3.length c0_3] 26 (0, 0)) (by (with_reducible repeat (first | refine blk_drewN ?_ _ | refine blk_drew ?_ | refine blk_alloc ?_ _)); exact BK203.out) hb); have n3_ := Aside0.mk (below_step (by repeat (first | (with_reducible first | exact HB.out | apply below_alloc | apply pw_below_drewN | apply below_drew1 | refine below_set ?_ GE203.out) | exact HB.out)) hb); clear HO_10; clear HO_13; clear BK203; clear HB; have HO_10 := n0_; have HO_13 := n1_; have BK203 := n2_; have HB := n3_; clear n0_ n1_ n2_ n3_; (try clear hb); (try clear hb2); (try clear hk); (try clear hi)) | ((with_reducible refine gate_builtin (b := .append) (xs := #[.tmp 45, .tmp 47]) rfl ?_); (try (refine gate_guard (by rfl) ?_; dsimp only)); at_builtin; refine Kd.R_append (Kd.int .i64) (w0 := w) w.heap.size rfl (.tmp 45) (.tmp 47) 23 3 (.int .i64 0) 8 rfl Try.underlying23 info3 rfl (by decide) (by omega) u13 x13_2 x14_2 [.int .i64 x14_2] (fun _ => True) (fun _ => False) rfl rfl ?aP (fun _ hk => hk.elim) ?aF ?aO ?aB ?aS ?aL ?_; (case aP => exact rfl); (case aB => exact (by repeat (first | (with_reducible first | exact HB.out | apply below_alloc | apply pw_below_drewN | apply below_drew1 | refine below_set ?_ GE203.out) | exact HB.out))); (case aF => exact (fun _ _ => trivial)); (case aO => exact (by (with_reducible repeat (first | apply Kd.R_alloc | apply Kd.R_drewN | apply Kd.R_drew)); exact HO_13.out)); (case aS => exact (below_size (by repeat (first | (with_reducible first | exact HB.out | apply below_alloc | apply pw_below_drewN | apply below_drew1 | refine below_set ?_ GE203.out) | exact HB.out)))); (case aL => have := LMc14.out; omega); intro v208 w17 ho hb hg hat; rw [← Ny207.out] at ho; have n0_ := Aside0.mk (Kd.S_after (ok := (fun _ => True)) (by (with_reducible repeat (first | apply Kd.S_alloc | apply Kd.S_drewN | apply Kd.S_drew)); exact Kd.S_mono HO_10.out (fun _ hk => ⟨trivial, hk⟩)) hg hat); have n1_ := Aside0.mk (blk_grown (g := gb203) (o := .cells #[.slice (some ad204) l0_0.length c0_0, .slice A0_1 l0_1.length c0_1, .int .i64 a0_2, .slice A0_3 l0_3.length c0_3] 26 (0, 0)) (by (with_reducible repeat (first | refine blk_drewN ?_ _ | refine blk_drew ?_ | refine blk_alloc ?_ _)); exact BK203.out) hg (Kd.R_ne HO_13.out BK203.out (by decide))); have n2_ := Aside0.mk (hb); have n3_ := Aside0.mk (ho); clear HO_10; clear BK203; clear HB; clear HO_13; have HO_10 := n0_; have BK203 := n1_; have HB := n2_; have HO209 := n3_; clear n0_ n1_ n2_ n3_; clear ho hb hg hat))
            go_roundg k2
            case measure => have := HK1.out; have := HK2.out; omega
            case rel => exact ⟨(y207), (wrap64 (x14_2 + 1)), (by first | rfl | (simp; done) | (simp [*]; done)), H', ⟨by have := HK1.out; have := HK2.out; omega⟩, ⟨by (with_reducible repeat (first | apply Kd.S_alloc | apply Kd.S_drewN | apply Kd.S_drew)); exact Kd.S_mono HO_10.out (fun _ hk => hk.2)⟩, ⟨by (with_reducible repeat (first | apply Kd.R_alloc | apply Kd.R_drewN | apply Kd.R_drew)); exact HO209.out⟩, ⟨by (with_reducible repeat (first | refine blk_drewN ?_ _ | refine blk_drew ?_ | refine blk_alloc ?_ _)); exact BK203.out⟩, ⟨by repeat (first | (with_reducible first | exact HB.out | apply below_alloc | apply pw_below_drewN | apply below_drew1 | refine below_set ?_ GE203.out) | exact HB.out)⟩⟩
           ·rw [if_neg c14] at H
            exact absurd H (by simp)
          ·replace c13 := Bool.eq_false_iff.mpr c13
           subst c13
           have H1 : (tensileref08_Lots.l1 k2 l1 a2 a3 x10_1 x11_1 x12_1 x13_2 (wrap64 (x14_2 + 1)) l0_0 l0_1 a0_2 l0_3) = some (r1, r2) := by rw [if_neg (show ¬ (false = true) by decide)] at H; exact H
           clear H
           have H := H1
           clear H1
           have H' := Aside0.mk H
           clear H
           have hcz18_0 : wr.cell? ⟨gb203, 0, none⟩ = some (.slice (some ad204) l0_0.length c0_0) := (blk_cell BK203.out 0).trans rfl
           have hcz18_1 : wr.cell? ⟨gb203, 1, none⟩ = some (.slice A0_1 l0_1.length c0_1) := (blk_cell BK203.out 1).trans rfl
           have hcz18_2 : wr.cell? ⟨gb203, 2, none⟩ = some (.int .i64 a0_2) := (blk_cell BK203.out 2).trans rfl
           have hcz18_3 : wr.cell? ⟨gb203, 3, none⟩ = some (.slice A0_3 l0_3.length c0_3) := (blk_cell BK203.out 3).trans rfl
           have hfz18_0 := blk_frozen BK203.out 0
           have hfz18_1 := blk_frozen BK203.out 1
           have hfz18_2 := blk_frozen BK203.out 2
           have hfz18_3 := blk_frozen BK203.out 3
           have p205 : 0 ≤ (x12_1 : Int) := of_decide_eq_true (by first | (with_reducible assumption) | assumption)
           have q205 : x12_1 < (l0_0.length : Int) := of_decide_eq_true (by first | (with_reducible assumption) | assumption)
           obtain ⟨ad205, e205, hx205_0, hx205_1⟩ := at_T44 HR0_0.out x12_1 p205 q205
           obtain rfl : ad204 = ad205 := (by injection e205)
           replace hx205_0 := (HB.out.cell (World.block_lt_of_cell? w _ hx205_0)).trans hx205_0
           replace hx205_1 := (HB.out.cell (World.block_lt_of_cell? w _ hx205_1)).trans hx205_1
           replace p205 := eq_true p205
           replace q205 := eq_true q205
           go_wp2_with (first | ((with_reducible refine gate_callee (f := 72) rfl ?_); refine goesL_ (some 44) rfl rfl Try.func72 (by kernel_rfl) rfl #[.agg #[.slice (some ad204) l0_0.length c0_0, .slice A0_1 l0_1.length c0_1, .int .i64 a0_2, .slice A0_3 l0_3.length c0_3], .slice A1 l1.length c1, .int .i64 a2, .int .i64 a3, .int .i64 x12_1, .int .i64 x14_2] rfl (by (try simp only [List.map_toArray, List.map_cons, List.map_nil]); first | done | rfl | (simp only [List.length_drop, List.length_take]; rfl)) ?_; (with_reducible refine (tensileref08_LotFits.calls k2 _ _ l0_0 _ _ l0_1 a0_2 _ _ l0_3 _ _ l1 a2 a3 x12_1 x14_2 false _ ?side1 ?side2 ?side3 ?side4 ?side5 ?side6 ?side7 ?side8 A12.out).mono ?_); (case side1 => repeat (first | exact (Kd.C_below HR0_0.out HB.out) | (with_reducible refine Kd.C_alloc ?_ _) | (with_reducible refine Kd.C_drewN ?_ _) | (with_reducible refine Kd.C_drew ?_))); (case side2 => exact HC0_0.out); (case side3 => repeat (first | exact (Kd.C_below HR0_1.out HB.out) | (with_reducible refine Kd.C_alloc ?_ _) | (with_reducible refine Kd.C_drewN ?_ _) | (with_reducible refine Kd.C_drew ?_))); (case side4 => exact HC0_1.out); (case side5 => repeat (first | exact (Kd.C_below HR0_3.out HB.out) | (with_reducible refine Kd.C_alloc ?_ _) | (with_reducible refine Kd.C_drewN ?_ _) | (with_reducible refine Kd.C_drew ?_))); (case side6 => exact HC0_3.out); (case side7 => repeat (first | exact (Kd.C_below HR1.out HB.out) | (with_reducible refine Kd.C_alloc ?_ _) | (with_reducible refine Kd.C_drewN ?_ _) | (with_reducible refine Kd.C_drew ?_))); (case side8 => exact HC1.out); rintro e w19 ⟨rfl, hb⟩; refine ⟨_, rfl, ?_⟩; have n0_ := Aside0.mk (Kd.S_below (by (with_reducible repeat (first | apply Kd.S_alloc | apply Kd.S_drewN | apply Kd.S_drew)); exact HO_10.out) hb); have n1_ := Aside0.mk (Kd.R_below (by (with_reducible repeat (first | apply Kd.R_alloc | apply Kd.R_drewN | apply Kd.R_drew)); exact HO_13.out) hb); have n2_ := Aside0.mk (blk_below (g := gb203) (o := .cells #[.slice (some ad204) l0_0.length c0_0, .slice A0_1 l0_1.length c0_1, .int .i64 a0_2, .slice A0_3 l0_3.length c0_3] 26 (0, 0)) (by (with_reducible repeat (first | refine blk_drewN ?_ _ | refine blk_drew ?_ | refine blk_alloc ?_ _)); exact BK203.out) hb); have n3_ := Aside0.mk (below_step (by repeat (first | (with_reducible first | exact HB.out | apply below_alloc | apply pw_below_drewN | apply below_drew1 | refine below_set ?_ GE203.out) | exact HB.out)) hb); clear HO_10; clear HO_13; clear BK203; clear HB; have HO_10 := n0_; have HO_13 := n1_; have BK203 := n2_; have HB := n3_; clear n0_ n1_ n2_ n3_; (try clear hb); (try clear hb2); (try clear hk); (try clear hi)))
           go_roundg k2
           case measure => have := HK1.out; have := HK2.out; omega
           case rel => exact ⟨(x13_2), (wrap64 (x14_2 + 1)), (by first | rfl | (simp; done) | (simp [*]; done)), H', ⟨by have := HK1.out; have := HK2.out; omega⟩, ⟨by (with_reducible repeat (first | apply Kd.S_alloc | apply Kd.S_drewN | apply Kd.S_drew)); exact HO_10.out⟩, ⟨by (with_reducible repeat (first | apply Kd.R_alloc | apply Kd.R_drewN | apply Kd.R_drew)); exact HO_13.out⟩, ⟨by (with_reducible repeat (first | refine blk_drewN ?_ _ | refine blk_drew ?_ | refine blk_alloc ?_ _)); exact BK203.out⟩, ⟨by repeat (first | (with_reducible first | exact HB.out | apply below_alloc | apply pw_below_drewN | apply below_drew1 | refine below_set ?_ GE203.out) | exact HB.out)⟩⟩
         ·rw [if_neg c11] at H
          have c11b0 : decide (x14_2 ≤ ((rd_T44 l0_0 x12_1).f1)) = false := decide_eq_false c11
          clear c11
          by_cases c20 : x10_1.length < 5864062014805
          ·rw [if_pos c20] at H
           have LMc20 := Aside0.mk c20
           clear c20
           obtain ⟨y210, hy210⟩ : ∃ y_ : List (List Int), y_ = (x10_1 ++ [x13_2]) := ⟨_, rfl⟩
           replace H : (if x11_1 = true then (tensileref08_Lots.l0 k2 l1 a2 a3 y210 (decide ((x13_2.length : Int) > 0)) (wrap64 (x12_1 + 1)) l0_0 l0_1 a0_2 l0_3) else (tensileref08_Lots.l0 k2 l1 a2 a3 y210 false (wrap64 (x12_1 + 1)) l0_0 l0_1 a0_2 l0_3)) = some (r1, r2) := by first | (rw [hy210]; with_reducible exact H) | (have H2_ := (Option.bind_some _ _).symm.trans H; rw [hy210]; with_reducible exact H2_) | (have H2_ := (Option.bind_some _ _).symm.trans H; with_reducible exact H2_) | with_reducible exact H | (rw [hy210]; exact H) | exact H
           have Ny210 := Aside0.mk hy210
           clear hy210
           by_cases c21 : x11_1 = true
           ·subst c21
            have H1 : (tensileref08_Lots.l0 k2 l1 a2 a3 y210 (decide ((x13_2.length : Int) > 0)) (wrap64 (x12_1 + 1)) l0_0 l0_1 a0_2 l0_3) = some (r1, r2) := by rw [if_pos rfl] at H; exact H
            clear H
            have H := H1
            clear H1
            have H' := Aside0.mk H
            clear H
            have hcz22_0 : wr.cell? ⟨gb203, 0, none⟩ = some (.slice (some ad204) l0_0.length c0_0) := (blk_cell BK203.out 0).trans rfl
            have hcz22_1 : wr.cell? ⟨gb203, 1, none⟩ = some (.slice A0_1 l0_1.length c0_1) := (blk_cell BK203.out 1).trans rfl
            have hcz22_2 : wr.cell? ⟨gb203, 2, none⟩ = some (.int .i64 a0_2) := (blk_cell BK203.out 2).trans rfl
            have hcz22_3 : wr.cell? ⟨gb203, 3, none⟩ = some (.slice A0_3 l0_3.length c0_3) := (blk_cell BK203.out 3).trans rfl
            have hfz22_0 := blk_frozen BK203.out 0
            have hfz22_1 := blk_frozen BK203.out 1
            have hfz22_2 := blk_frozen BK203.out 2
            have hfz22_3 := blk_frozen BK203.out 3
            have p205 : 0 ≤ (x12_1 : Int) := of_decide_eq_true (by first | (with_reducible assumption) | assumption)
            have q205 : x12_1 < (l0_0.length : Int) := of_decide_eq_true (by first | (with_reducible assumption) | assumption)
            obtain ⟨ad205, e205, hx205_0, hx205_1⟩ := at_T44 HR0_0.out x12_1 p205 q205
            obtain rfl : ad204 = ad205 := (by injection e205)
            replace hx205_0 := (HB.out.cell (World.block_lt_of_cell? w _ hx205_0)).trans hx205_0
            replace hx205_1 := (HB.out.cell (World.block_lt_of_cell? w _ hx205_1)).trans hx205_1
            replace p205 := eq_true p205
            replace q205 := eq_true q205
            obtain ⟨Ao24, co24, eo24⟩ := Kd.R_slice HO_13.out
            subst eo24
            go_wp2_with (first | ((with_reducible refine gate_builtin (b := .append) (xs := #[.tmp 49, .tmp 51]) rfl ?_); (try (refine gate_guard (by rfl) ?_; dsimp only)); at_builtin; refine Kd.S_append (Kd.slice 3 (Kd.int .i64)) (w0 := w) w.heap.size rfl (.tmp 49) (.tmp 51) 51 23 (.slice none 0 0) 24 rfl Try.underlying51 info23 rfl (by decide) (by omega) u10 x10_1 x13_2 [.slice Ao24 x13_2.length co24] (fun _ => True) (fun k_ => some k_ = (.slice Ao24 x13_2.length co24 : Value).ownBlock) rfl rfl ?aP (fun k_ hk_ => ((Kd.R_mono (ok' := fun k_ => ((fun _ => True)) k_ ∧ some k_ ≠ (u10 : Value).ownBlock) (Kd.R_apart' (HO_13.out) (Kd.S_typed HO_10.out) (by decide)) (fun k_ hk => ⟨trivial, hk.2⟩))).1 k_ hk_.symm) ?aF ?aO ?aB ?aS ?aL ?_; (case aP => exact Kd.M_row (Kd.R_mono (Kd.R_tight rfl (Kd.R_mono (ok' := fun k_ => ((fun _ => True)) k_ ∧ some k_ ≠ (u10 : Value).ownBlock) (Kd.R_apart' (HO_13.out) (Kd.S_typed HO_10.out) (by decide)) (fun k_ hk => ⟨trivial, hk.2⟩))) (fun _ h_ => h_))); (case aB => exact (by repeat (first | (with_reducible first | exact HB.out | apply below_alloc | apply pw_below_drewN | apply below_drew1 | refine below_set ?_ GE203.out) | exact HB.out))); (case aF => exact (fun _ _ => trivial)); (case aO => exact (by (with_reducible repeat (first | apply Kd.S_alloc | apply Kd.S_drewN | apply Kd.S_drew)); exact Kd.S_mono HO_10.out (fun k_ hk => ⟨trivial, fun e_ => hk e_⟩))); (case aS => exact (below_size (by repeat (first | (with_reducible first | exact HB.out | apply below_alloc | apply pw_below_drewN | apply below_drew1 | refine below_set ?_ GE203.out) | exact HB.out)))); (case aL => have := LMc20.out; omega); intro v211 w23 ho hb hg hat; rw [← Ny210.out] at ho; have n0_ := Aside0.mk (blk_grown (g := gb203) (o := .cells #[.slice (some ad204) l0_0.length c0_0, .slice A0_1 l0_1.length c0_1, .int .i64 a0_2, .slice A0_3 l0_3.length c0_3] 26 (0, 0)) (by (with_reducible repeat (first | refine blk_drewN ?_ _ | refine blk_drew ?_ | refine blk_alloc ?_ _)); exact BK203.out) hg (Kd.S_ne HO_10.out BK203.out (by decide))); have n1_ := Aside0.mk (hb); have n2_ := Aside0.mk (ho); clear BK203; clear HB; clear HO_10; clear HO_13; have BK203 := n0_; have HB := n1_; have HO212 := n2_; clear n0_ n1_ n2_; clear ho hb hg hat))
            go_roundg k2
            case measure => have := HK1.out; have := HK2.out; omega
            case rel => exact ⟨(y210), (decide ((x13_2.length : Int) > 0)), (wrap64 (x12_1 + 1)), (by first | rfl | (simp; done) | (simp [*]; done)), (by first | rfl | (simp; done) | (simp [*]; done)), H', ⟨by have := HK1.out; have := HK2.out; omega⟩, ⟨by (with_reducible repeat (first | apply Kd.S_alloc | apply Kd.S_drewN | apply Kd.S_drew)); exact HO212.out⟩, ⟨by (with_reducible repeat (first | refine blk_drewN ?_ _ | refine blk_drew ?_ | refine blk_alloc ?_ _)); exact BK203.out⟩, ⟨by repeat (first | (with_reducible first | exact HB.out | apply below_alloc | apply pw_below_drewN | apply below_drew1 | refine below_set ?_ GE203.out) | exact HB.out)⟩⟩
           ·replace c21 := Bool.eq_false_iff.mpr c21
            subst c21
            have H1 : (tensileref08_Lots.l0 k2 l1 a2 a3 y210 false (wrap64 (x12_1 + 1)) l0_0 l0_1 a0_2 l0_3) = some (r1, r2) := by rw [if_neg (show ¬ (false = true) by decide)] at H; exact H
            clear H
            have H := H1
            clear H1
            have H' := Aside0.mk H
            clear H
            have hcz25_0 : wr.cell? ⟨gb203, 0, none⟩ = some (.slice (some ad204) l0_0.length c0_0) := (blk_cell BK203.out 0).trans rfl
            have hcz25_1 : wr.cell? ⟨gb203, 1, none⟩ = some (.slice A0_1 l0_1.length c0_1) := (blk_cell BK203.out 1).trans rfl
            have hcz25_2 : wr.cell? ⟨gb203, 2, none⟩ = some (.int .i64 a0_2) := (blk_cell BK203.out 2).trans rfl
            have hcz25_3 : wr.cell? ⟨gb203, 3, none⟩ = some (.slice A0_3 l0_3.length c0_3) := (blk_cell BK203.out 3).trans rfl
            have hfz25_0 := blk_frozen BK203.out 0
            have hfz25_1 := blk_frozen BK203.out 1
            have hfz25_2 := blk_frozen BK203.out 2
            have hfz25_3 := blk_frozen BK203.out 3
            have p205 : 0 ≤ (x12_1 : Int) := of_decide_eq_true (by first | (with_reducible assumption) | assumption)
            have q205 : x12_1 < (l0_0.length : Int) := of_decide_eq_true (by first | (with_reducible assumption) | assumption)
            obtain ⟨ad205, e205, hx205_0, hx205_1⟩ := at_T44 HR0_0.out x12_1 p205 q205
            obtain rfl : ad204 = ad205 := (by injection e205)
            replace hx205_0 := (HB.out.cell (World.block_lt_of_cell? w _ hx205_0)).trans hx205_0
            replace hx205_1 := (HB.out.cell (World.block_lt_of_cell? w _ hx205_1)).trans hx205_1
            replace p205 := eq_true p205
            replace q205 := eq_true q205
            obtain ⟨Ao27, co27, eo27⟩ := Kd.R_slice HO_13.out
            subst eo27
            go_wp2_with (first | ((with_reducible refine gate_builtin (b := .append) (xs := #[.tmp 49, .tmp 51]) rfl ?_); (try (refine gate_guard (by rfl) ?_; dsimp only)); at_builtin; refine Kd.S_append (Kd.slice 3 (Kd.int .i64)) (w0 := w) w.heap.size rfl (.tmp 49) (.tmp 51) 51 23 (.slice none 0 0) 24 rfl Try.underlying51 info23 rfl (by decide) (by omega) u10 x10_1 x13_2 [.slice Ao27 x13_2.length co27] (fun _ => True) (fun k_ => some k_ = (.slice Ao27 x13_2.length co27 : Value).ownBlock) rfl rfl ?aP (fun k_ hk_ => ((Kd.R_mono (ok' := fun k_ => ((fun _ => True)) k_ ∧ some k_ ≠ (u10 : Value).ownBlock) (Kd.R_apart' (HO_13.out) (Kd.S_typed HO_10.out) (by decide)) (fun k_ hk => ⟨trivial, hk.2⟩))).1 k_ hk_.symm) ?aF ?aO ?aB ?aS ?aL ?_; (case aP => exact Kd.M_row (Kd.R_mono (Kd.R_tight rfl (Kd.R_mono (ok' := fun k_ => ((fun _ => True)) k_ ∧ some k_ ≠ (u10 : Value).ownBlock) (Kd.R_apart' (HO_13.out) (Kd.S_typed HO_10.out) (by decide)) (fun k_ hk => ⟨trivial, hk.2⟩))) (fun _ h_ => h_))); (case aB => exact (by repeat (first | (with_reducible first | exact HB.out | apply below_alloc | apply pw_below_drewN | apply below_drew1 | refine below_set ?_ GE203.out) | exact HB.out))); (case aF => exact (fun _ _ => trivial)); (case aO => exact (by (with_reducible repeat (first | apply Kd.S_alloc | apply Kd.S_drewN | apply Kd.S_drew)); exact Kd.S_mono HO_10.out (fun k_ hk => ⟨trivial, fun e_ => hk e_⟩))); (case aS => exact (below_size (by repeat (first | (with_reducible first | exact HB.out | apply below_alloc | apply pw_below_drewN | apply below_drew1 | refine below_set ?_ GE203.out) | exact HB.out)))); (case aL => have := LMc20.out; omega); intro v211 w26 ho hb hg hat; rw [← Ny210.out] at ho; have n0_ := Aside0.mk (blk_grown (g := gb203) (o := .cells #[.slice (some ad204) l0_0.length c0_0, .slice A0_1 l0_1.length c0_1, .int .i64 a0_2, .slice A0_3 l0_3.length c0_3] 26 (0, 0)) (by (with_reducible repeat (first | refine blk_drewN ?_ _ | refine blk_drew ?_ | refine blk_alloc ?_ _)); exact BK203.out) hg (Kd.S_ne HO_10.out BK203.out (by decide))); have n1_ := Aside0.mk (hb); have n2_ := Aside0.mk (ho); clear BK203; clear HB; clear HO_10; clear HO_13; have BK203 := n0_; have HB := n1_; have HO212 := n2_; clear n0_ n1_ n2_; clear ho hb hg hat))
            go_roundg k2
            case measure => have := HK1.out; have := HK2.out; omega
            case rel => exact ⟨(y210), (false), (wrap64 (x12_1 + 1)), (by first | rfl | (simp; done) | (simp [*]; done)), (by first | rfl | (simp; done) | (simp [*]; done)), H', ⟨by have := HK1.out; have := HK2.out; omega⟩, ⟨by (with_reducible repeat (first | apply Kd.S_alloc | apply Kd.S_drewN | apply Kd.S_drew)); exact HO212.out⟩, ⟨by (with_reducible repeat (first | refine blk_drewN ?_ _ | refine blk_drew ?_ | refine blk_alloc ?_ _)); exact BK203.out⟩, ⟨by repeat (first | (with_reducible first | exact HB.out | apply below_alloc | apply pw_below_drewN | apply below_drew1 | refine below_set ?_ GE203.out) | exact HB.out)⟩⟩
          ·rw [if_neg c20] at H
           exact absurd H (by simp)
        ·rw [if_neg c10] at H
         exact absurd H (by simp)
       ·rw [if_neg c9] at H
        exact absurd H (by simp)
    ·rw [if_neg c7] at H
     exact absurd H (by simp)
   ·rw [if_neg c6] at H
    have c6b0 : decide (x12_1 < (l0_0.length : Int)) = false := decide_eq_false c6
    clear c6
    simp only [Option.some.injEq, Prod.mk.injEq] at H
    obtain ⟨rfl, rfl⟩ := H
    have hcz28_0 : wr.cell? ⟨gb203, 0, none⟩ = some (.slice A0_0 l0_0.length c0_0) := (blk_cell BK203.out 0).trans rfl
    have hcz28_1 : wr.cell? ⟨gb203, 1, none⟩ = some (.slice A0_1 l0_1.length c0_1) := (blk_cell BK203.out 1).trans rfl
    have hcz28_2 : wr.cell? ⟨gb203, 2, none⟩ = some (.int .i64 a0_2) := (blk_cell BK203.out 2).trans rfl
    have hcz28_3 : wr.cell? ⟨gb203, 3, none⟩ = some (.slice A0_3 l0_3.length c0_3) := (blk_cell BK203.out 3).trans rfl
    have hfz28_0 := blk_frozen BK203.out 0
    have hfz28_1 := blk_frozen BK203.out 1
    have hfz28_2 := blk_frozen BK203.out 2
    have hfz28_3 := blk_frozen BK203.out 3
    go_wp2
    go_ret2
    exact ⟨_, by first | rfl | (simp [errW_none, errW_some] <;> rfl) | (simp [*, errW_none, errW_some] <;> rfl), by (with_reducible repeat (first | apply Kd.S_alloc | apply Kd.S_drewN | apply Kd.S_drew)); exact HO_10.out, by repeat (first | (with_reducible first | exact HB.out | apply below_alloc | apply pw_below_drewN | apply below_drew1 | refine below_set ?_ GE203.out) | exact HB.out)⟩
def tensileref08_Explains.f (k : Nat) (l0_0 : List (S44)) (l0_1 : List Int) (a0_2 : Int) (l0_3 : List (S62)) (l1 : List Int) : Option (Bool) := (tensileref08_Lots.f k l0_0 l0_1 a0_2 l0_3 l1 (-1) 0).bind fun bt214 => (some bt214.2)
set_option maxHeartbeats 8000000 in
set_option maxRecDepth 100000 in
theorem tensileref08_Explains.calls (k : Nat) (A0_0 : Option Addr) (c0_0 : Nat) (l0_0 : List (S44)) (A0_1 : Option Addr) (c0_1 : Nat) (l0_1 : List Int) (a0_2 : Int) (A0_3 : Option Addr) (c0_3 : Nat) (l0_3 : List (S62)) (A1 : Option Addr) (c1 : Nat) (l1 : List Int) (r : Bool) (w : World) (hr0_0 : Kd.C k44 w A0_0 l0_0.length l0_0) (hc0_0 : l0_0.length ≤ c0_0) (hr0_1 : Kd.C (Kd.int .i64) w A0_1 l0_1.length l0_1) (hc0_1 : l0_1.length ≤ c0_1) (hr0_3 : Kd.C k62 w A0_3 l0_3.length l0_3) (hc0_3 : l0_3.length ≤ c0_3) (hr1 : Kd.C (Kd.int .i64) w A1 l1.length l1) (hc1 : l1.length ≤ c1) (h : tensileref08_Explains.f k l0_0 l0_1 a0_2 l0_3 l1 = some r) :
  Calls Try.prog 25 #[.agg #[.slice A0_0 l0_0.length c0_0, .slice A0_1 l0_1.length c0_1, .int .i64 a0_2, .slice A0_3 l0_3.length c0_3], .slice A1 l1.length c1] w fun e w' => e = .returned (.bool r) ∧ Below w.heap.size w w' := by
 have hu26 := Try.underlying26
 have HR0_0 := Aside0.mk hr0_0
 have HC0_0 := Aside0.mk hc0_0
 clear hr0_0 hc0_0
 have HR0_1 := Aside0.mk hr0_1
 have HC0_1 := Aside0.mk hc0_1
 clear hr0_1 hc0_1
 have HR0_3 := Aside0.mk hr0_3
 have HC0_3 := Aside0.mk hc0_3
 clear hr0_3 hc0_3
 have HR1 := Aside0.mk hr1
 have HC1 := Aside0.mk hc1
 clear hr1 hc1
 have HB := Aside0.mk (Below.refl w.heap.size w)
 have H : ((tensileref08_Lots.f k l0_0 l0_1 a0_2 l0_3 l1 (-1) 0).bind fun bt214 => (some bt214.2)) = some r := h
 clear h
 replace H := Option.bind_eq_some_iff.mp H
 obtain ⟨⟨t214, t217⟩, A30, H⟩ := H
 replace H : (some t217) = some r := H
 have A3 := Aside0.mk A30
 clear A30
 obtain rfl := Option.some.inj H
 go_enter Try.func25, Try.ntmps25
 go_wp2_with (first | ((with_reducible refine gate_dst (N := 2) rfl ?_); refine box_event ?hg (N := 2) ?hd (cs := #[.slice A0_0 l0_0.length c0_0, .slice A0_1 l0_1.length c0_1, .int .i64 a0_2, .slice A0_3 l0_3.length c0_3]) (t := 26) ?hr ?_; (case hd => rfl); (case hg => rfl); (case hr => first | (go_simp; done) | (go_simp; rfl)); intro gb213 hg w4 hbox hb; have n0_ := Aside0.mk (below_step (by repeat (first | (with_reducible first | exact HB.out | apply below_alloc | apply pw_below_drewN | apply below_drew1) | exact HB.out)) hb); have n1_ := Aside0.mk (hbox); have n2_ := Aside0.mk ((by rw [hg]; exact (below_size (by repeat (first | (with_reducible first | exact HB.out | apply below_alloc | apply pw_below_drewN | apply below_drew1) | exact HB.out))) : w.heap.size ≤ gb213)); have n3_ := Aside0.mk ((by rw [hg]; exact (below_size (by repeat (first | (with_reducible first | exact HB.out | apply below_alloc | apply pw_below_drewN | apply below_drew1) | exact HB.out))) : w.heap.size ≤ gb213)); clear HB; have HB := n0_; have BK213 := n1_; have GW213 := n2_; have GE213 := n3_; clear n0_ n1_ n2_ n3_; clear hb hbox hg; have hcz5_0 : w4.cell? ⟨gb213, 0, none⟩ = some (.slice A0_0 l0_0.length c0_0) := (blk_cell BK213.out 0).trans rfl; have hcz5_1 : w4.cell? ⟨gb213, 1, none⟩ = some (.slice A0_1 l0_1.length c0_1) := (blk_cell BK213.out 1).trans rfl; have hcz5_2 : w4.cell? ⟨gb213, 2, none⟩ = some (.int .i64 a0_2) := (blk_cell BK213.out 2).trans rfl; have hcz5_3 : w4.cell? ⟨gb213, 3, none⟩ = some (.slice A0_3 l0_3.length c0_3) := (blk_cell BK213.out 3).trans rfl; have hfz5_0 := blk_frozen BK213.out 0; have hfz5_1 := blk_frozen BK213.out 1; have hfz5_2 := blk_frozen BK213.out 2; have hfz5_3 := blk_frozen BK213.out 3) | ((with_reducible refine gate_callee (f := 53) rfl ?_); refine goesL_ (some 10) rfl rfl Try.func53 (by kernel_rfl) rfl #[.agg #[.slice A0_0 l0_0.length c0_0, .slice A0_1 l0_1.length c0_1, .int .i64 a0_2, .slice A0_3 l0_3.length c0_3], .slice A1 l1.length c1, .int .i64 (-1), .int .i64 0] rfl (by (try simp only [List.map_toArray, List.map_cons, List.map_nil]); first | done | rfl | (simp only [List.length_drop, List.length_take]; rfl)) ?_; (with_reducible refine (tensileref08_Lots.calls k _ _ l0_0 _ _ l0_1 a0_2 _ _ l0_3 _ _ l1 (-1) 0 t214 t217 _ ?side1 ?side2 ?side3 ?side4 ?side5 ?side6 ?side7 ?side8 A3.out).mono ?_); (case side1 => repeat (first | exact (Kd.C_below HR0_0.out HB.out) | (with_reducible refine Kd.C_alloc ?_ _) | (with_reducible refine Kd.C_drewN ?_ _) | (with_reducible refine Kd.C_drew ?_))); (case side2 => exact HC0_0.out); (case side3 => repeat (first | exact (Kd.C_below HR0_1.out HB.out) | (with_reducible refine Kd.C_alloc ?_ _) | (with_reducible refine Kd.C_drewN ?_ _) | (with_reducible refine Kd.C_drew ?_))); (case side4 => exact HC0_1.out); (case side5 => repeat (first | exact (Kd.C_below HR0_3.out HB.out) | (with_reducible refine Kd.C_alloc ?_ _) | (with_reducible refine Kd.C_drewN ?_ _) | (with_reducible refine Kd.C_drew ?_))); (case side6 => exact HC0_3.out); (case side7 => repeat (first | exact (Kd.C_below HR1.out HB.out) | (with_reducible refine Kd.C_alloc ?_ _) | (with_reducible refine Kd.C_drewN ?_ _) | (with_reducible refine Kd.C_drew ?_))); (case side8 => exact HC1.out); rintro e w6 ⟨v215, rfl, ho0, hb⟩; refine ⟨_, rfl, ?_⟩; have n0_ := Aside0.mk (Kd.S_lower ho0 (below_size (by repeat (first | (with_reducible first | exact HB.out | apply below_alloc | apply pw_below_drewN | apply below_drew1 | refine below_set ?_ GE213.out) | exact HB.out)))); have n1_ := Aside0.mk (blk_below (g := gb213) (o := .cells #[.slice A0_0 l0_0.length c0_0, .slice A0_1 l0_1.length c0_1, .int .i64 a0_2, .slice A0_3 l0_3.length c0_3] 26 (0, 0)) (by (with_reducible repeat (first | refine blk_drewN ?_ _ | refine blk_drew ?_ | refine blk_alloc ?_ _)); exact BK213.out) hb); have n2_ := Aside0.mk (below_step (by repeat (first | (with_reducible first | exact HB.out | apply below_alloc | apply pw_below_drewN | apply below_drew1 | refine below_set ?_ GE213.out) | exact HB.out)) hb); clear BK213; clear HB; have HO216 := n0_; have BK213 := n1_; have HB := n2_; clear n0_ n1_ n2_; (try clear hb); (try clear hb2); (try clear hk); (try clear hi); (try clear ho0)))
 go_ret
 exact ⟨by first | rfl | (simp [errW_none, errW_some] <;> rfl) | (simp [*, errW_none, errW_some] <;> rfl), by repeat (first | (with_reducible first | exact HB.out | apply below_alloc | apply pw_below_drewN | apply below_drew1 | refine below_set ?_ GE213.out) | exact HB.out)⟩
end Go.Proofs.Ytcpbhklaffgokaa.Q
namespace Go.Proofs.Ytcpbhklaffgokaa.Q
open Go.RowKit Go.Proofs.YtcpbhklaffgokaaW.PrintWords Go.Proofs.YtcpbhklaffgokaaW.PrintLast Go.Proofs.YtcpbhklaffgokaaW.PrintMore
set_option linter.unusedVariables false
set_option linter.unusedSimpArgs false
def m46 (x : S44) : S46 := ⟨x.f0, x.f1⟩
def m75 (x : S62) : S75 := ⟨x.f0, x.f1⟩
theorem wr (x : Int) (h0 : -9223372036854775808 ≤ x) (h1 : x ≤ 9223372036854775807) : wrap64 x = x := by
 unfold wrap64
 omega
theorem wr1 (i n : Nat) (h : i < n) (hn : n ≤ 9223372036854775807) : wrap64 ((i : Int) + 1) = ((i + 1 : Nat) : Int) := by
 rw [wr _ (by omega) (by omega)]
 omega
theorem rd_drop (xs : List Int) (i : Nat) (h : i < xs.length) : xs.drop i = rd xs (i : Int) :: xs.drop (i + 1) := by
 rw [List.drop_eq_getElem_cons h, rd, Int.toNat_natCast, List.getD_eq_getElem?_getD, List.getElem?_eq_getElem h]
 rfl
theorem rd44_drop (xs : List S44) (i : Nat) (h : i < xs.length) : xs.drop i = rd_T44 xs (i : Int) :: xs.drop (i + 1) := by
 rw [List.drop_eq_getElem_cons h, rd_T44, Int.toNat_natCast, List.getD_eq_getElem?_getD, List.getElem?_eq_getElem h]
 rfl
theorem rd62_drop (xs : List S62) (i : Nat) (h : i < xs.length) : xs.drop i = rd_T62 xs (i : Int) :: xs.drop (i + 1) := by
 rw [List.drop_eq_getElem_cons h, rd_T62, Int.toNat_natCast, List.getD_eq_getElem?_getD, List.getElem?_eq_getElem h]
 rfl
theorem drop_end {α : Type} (xs : List α) (i : Nat) (h : ¬ i < xs.length) : xs.drop i = [] := List.drop_eq_nil_of_le (by omega)
theorem mem_drop0 {α : Type} {xs : List α} {i : Nat} {x : α} {ys : List α} (h : xs.drop i = x :: ys) : x ∈ xs := by
 have : x ∈ xs.drop i := by rw [h]; exact List.mem_cons_self
 exact List.mem_of_mem_drop this
structure Sz (lots : List S44) (samples : List Int) (labs : List S62) : Prop where
 a : lots.length ≤ 9223372036854775807
 b : samples.length ≤ 9223372036854775807
 c : labs.length ≤ 9223372036854775807
 d : ∀ x ∈ labs, x.f1.length ≤ 9223372036854775807
theorem In_eq (a b c : Int) : tensileref08_In.f a b c = some (withinB a b c) := by
 unfold tensileref08_In.f withinB
 by_cases h : a ≥ b
 ·rw [if_pos h, decide_eq_true (show b ≤ a from h), Bool.true_and]
 ·rw [if_neg h, decide_eq_false (show ¬ b ≤ a from h), Bool.false_and]
section
variable (lots : List S44) (samples : List Int) (spread : Int) (labs : List S62)
theorem Fault_l3 {x5 f0 : Int} {ys : List Int} (hy : ys.length ≤ 9223372036854775807) {R : Int} (hR : Ev (fun k => tensileref08_Fault.l2 k (wrap64 (x5 + 1)) lots samples spread labs) R) :
  ∀ d i : Nat, ys.length - i = d → Ev (fun k => tensileref08_Fault.l3 k x5 (i : Int) lots samples spread labs f0 ys) (if (ys.drop i).all (fun n => withinB n (-1) 1000) = true then R else 1) := by
 intro d
 induction d with
 | zero =>
  intro i hd
  rw [drop_end ys i (by omega)]
  refine Ev.step (fun k => by simp only [tensileref08_Fault.l3]; rw [if_neg (by omega)]) ?_
  simpa using hR
 | succ d ih =>
  intro i hd
  have hlt : i < ys.length := by omega
  rw [rd_drop ys i hlt, List.all_cons]
  cases hb : withinB (rd ys (i : Int)) (-1) 1000
  ·refine Ev.step (fun k => by simp only [tensileref08_Fault.l3]; rw [if_pos (by omega), if_pos (by omega), In_eq, hb, Option.bind_some, if_neg (by decide)]) ?_
   simpa using Ev.now (1 : Int)
  ·refine Ev.step (fun k => by simp only [tensileref08_Fault.l3]; rw [if_pos (by omega), if_pos (by omega), In_eq, hb, Option.bind_some, if_pos rfl, wr1 i _ hlt hy]) ?_
   simpa using ih (i + 1) (by omega)
theorem Fault_l2 (hs : Sz lots samples labs) : ∀ d i : Nat, labs.length - i = d → Ev (fun k => tensileref08_Fault.l2 k (i : Int) lots samples spread labs) (if (labs.drop i).all (fun x => labB samples.length (m75 x)) = true then 0 else 1) := by
 intro d
 induction d with
 | zero =>
  intro i hd
  rw [drop_end labs i (by omega)]
  refine Ev.step (fun k => by simp only [tensileref08_Fault.l2]; rw [if_neg (by omega)]) ?_
  simpa using Ev.now (0 : Int)
 | succ d ih =>
  intro i hd
  have hlt : i < labs.length := by omega
  have hdr := rd62_drop labs i hlt
  rw [hdr, List.all_cons]
  have hy : (rd_T62 labs (i : Int)).f1.length ≤ 9223372036854775807 := hs.d _ (mem_drop0 hdr)
  have hn : labB samples.length (m75 (rd_T62 labs (i : Int))) = (withinB (rd_T62 labs (i : Int)).f0 0 100 && ((rd_T62 labs (i : Int)).f1.length == samples.length && (rd_T62 labs (i : Int)).f1.all fun n => withinB n (-1) 1000)) := rfl
  generalize hx : rd_T62 labs (i : Int) = x at hy hn ⊢
  rw [hn]
  have hnext := ih (i + 1) (by omega)
  rw [← wr1 i _ hlt hs.c] at hnext
  have h3 := Fault_l3 lots samples spread labs (f0 := x.f0) hy hnext x.f1.length 0 (by omega)
  rw [List.drop_zero] at h3
  cases hb : withinB x.f0 0 100
  ·refine Ev.step (fun k => by simp only [tensileref08_Fault.l2]; rw [if_pos (by omega), if_pos (by omega), hx, In_eq, hb, Option.bind_some, if_neg (by decide)]) ?_
   refine Ev.step (fun k => by simp only [tensileref08_Fault.j5]; rw [if_pos trivial]) ?_
   simpa using Ev.now (1 : Int)
  ·by_cases hl : x.f1.length = samples.length
   ·have hl2 : ((x.f1.length : Int) != (samples.length : Int)) = false := by rw [bne_eq_false_iff_eq]; omega
    have hl3 : (x.f1.length == samples.length) = true := by rw [beq_iff_eq]; exact hl
    refine Ev.step (fun k => by simp only [tensileref08_Fault.l2]; rw [if_pos (by omega), if_pos (by omega), hx, In_eq, hb, Option.bind_some, if_pos rfl, hl2]) ?_
    refine Ev.step (fun k => by simp only [tensileref08_Fault.j5]; rw [if_neg (by decide)]) ?_
    rw [hl3]
    simp only [Bool.true_and]
    have e : (if (x.f1.all fun n => withinB n (-1) 1000) = true then (if ((List.drop (i + 1) labs).all fun x => labB samples.length (m75 x)) = true then (0 : Int) else 1) else 1) = if ((x.f1.all fun n => withinB n (-1) 1000) && ((List.drop (i + 1) labs).all fun x => labB samples.length (m75 x))) = true then 0 else 1 := by
     cases (x.f1.all fun n => withinB n (-1) 1000) <;> simp
    rw [← e]
    exact h3
   ·have hl2 : ((x.f1.length : Int) != (samples.length : Int)) = true := by rw [bne_iff_ne]; omega
    have hl3 : (x.f1.length == samples.length) = false := by rw [beq_eq_false_iff_ne]; exact hl
    refine Ev.step (fun k => by simp only [tensileref08_Fault.l2]; rw [if_pos (by omega), if_pos (by omega), hx, In_eq, hb, Option.bind_some, if_pos rfl, hl2]) ?_
    refine Ev.step (fun k => by simp only [tensileref08_Fault.j5]; rw [if_pos trivial]) ?_
    rw [hl3]
    simpa using Ev.now (1 : Int)
theorem Fault_l1 (hs : Sz lots samples labs) : ∀ d i : Nat, samples.length - i = d → Ev (fun k => tensileref08_Fault.l1 k (i : Int) lots samples spread labs) (if (samples.drop i).all (sampB lots.length) = true then (if labs.all (fun x => labB samples.length (m75 x)) = true then 0 else 1) else 1) := by
 intro d
 induction d with
 | zero =>
  intro i hd
  rw [drop_end samples i (by omega)]
  refine Ev.step (fun k => by simp only [tensileref08_Fault.l1]; rw [if_neg (by omega)]) ?_
  have := Fault_l2 lots samples spread labs hs labs.length 0 (by omega)
  simpa using this
 | succ d ih =>
  intro i hd
  have hlt : i < samples.length := by omega
  have hl := hs.a
  rw [rd_drop samples i hlt, List.all_cons]
  have e : sampB lots.length (rd samples (i : Int)) = withinB (rd samples (i : Int)) 0 (wrap64 ((lots.length : Int) - 1)) := by rw [wr _ (by omega) (by omega)]; rfl
  rw [e]
  cases hb : withinB (rd samples (i : Int)) 0 (wrap64 ((lots.length : Int) - 1))
  ·refine Ev.step (fun k => by simp only [tensileref08_Fault.l1]; rw [if_pos (by omega), if_pos (by omega), In_eq, hb, Option.bind_some, if_neg (by decide)]) ?_
   simpa using Ev.now (1 : Int)
  ·refine Ev.step (fun k => by simp only [tensileref08_Fault.l1]; rw [if_pos (by omega), if_pos (by omega), In_eq, hb, Option.bind_some, if_pos rfl, wr1 i _ hlt hs.b]) ?_
   simpa using ih (i + 1) (by omega)
theorem Fault_l0 (hs : Sz lots samples labs) : ∀ d i : Nat, lots.length - i = d → Ev (fun k => tensileref08_Fault.l0 k (i : Int) lots samples spread labs) (if (lots.drop i).all (fun x => lotB x.f0 x.f1) = true then (if samples.all (sampB lots.length) = true then (if labs.all (fun x => labB samples.length (m75 x)) = true then 0 else 1) else 1) else 1) := by
 intro d
 induction d with
 | zero =>
  intro i hd
  rw [drop_end lots i (by omega)]
  refine Ev.step (fun k => by simp only [tensileref08_Fault.l0]; rw [if_neg (by omega)]) ?_
  have := Fault_l1 lots samples spread labs hs samples.length 0 (by omega)
  simpa using this
 | succ d ih =>
  intro i hd
  have hlt : i < lots.length := by omega
  rw [rd44_drop lots i hlt, List.all_cons]
  generalize hx : rd_T44 lots (i : Int) = x
  have e : lotB x.f0 x.f1 = (withinB x.f0 0 x.f1 && decide (x.f1 ≤ 1000)) := by unfold lotB withinB; rw [Bool.and_assoc]
  rw [e]
  cases hb : withinB x.f0 0 x.f1
  ·refine Ev.step (fun k => by simp only [tensileref08_Fault.l0]; rw [if_pos (by omega), if_pos (by omega), hx, In_eq, hb, Option.bind_some, if_neg (by decide)]) ?_
   simpa using Ev.now (1 : Int)
  ·by_cases h2 : x.f1 > 1000
   ·refine Ev.step (fun k => by simp only [tensileref08_Fault.l0]; rw [if_pos (by omega), if_pos (by omega), hx, In_eq, hb, Option.bind_some, if_pos rfl, if_pos h2]) ?_
    rw [decide_eq_false (by omega)]
    simpa using Ev.now (1 : Int)
   ·refine Ev.step (fun k => by simp only [tensileref08_Fault.l0]; rw [if_pos (by omega), if_pos (by omega), hx, In_eq, hb, Option.bind_some, if_pos rfl, if_neg h2, wr1 i _ hlt hs.a]) ?_
    rw [decide_eq_true (by omega)]
    simpa using ih (i + 1) (by omega)
theorem Fault_ev (hs : Sz lots samples labs) : Ev (fun k => tensileref08_Fault.f k lots samples spread labs) (checkRound (lots.map m46) samples spread (labs.map m75)) := by
 have h0 := Fault_l0 lots samples spread labs hs lots.length 0 (by omega)
 rw [List.drop_zero] at h0
 have hj : ∀ b : Bool, b = decide (4 < lots.length ∨ 8 < samples.length ∨ 6 < labs.length) → Ev (fun k => tensileref08_Fault.j0 k b lots samples spread labs) (checkRound (lots.map m46) samples spread (labs.map m75)) := by
  intro b hb
  cases b with
  | true =>
   have := of_decide_eq_true hb.symm
   refine Ev.step (fun k => by simp only [tensileref08_Fault.j0]; rw [if_pos trivial]) ?_
   have e : checkRound (lots.map m46) samples spread (labs.map m75) = 3 := by unfold checkRound; simp only [List.length_map]; rw [if_pos this]
   rw [e]
   exact Ev.now 3
  | false =>
   have hn := of_decide_eq_false hb.symm
   have e : checkRound (lots.map m46) samples spread (labs.map m75) = if lots.length = 0 ∨ (lots.all fun x => lotB x.f0 x.f1) = false ∨ (samples.all (sampB lots.length)) = false ∨ withinB spread 0 100 = false ∨ (labs.all fun x => labB samples.length (m75 x)) = false then 1 else 0 := by
    unfold checkRound
    simp only [List.length_map, List.all_map]
    rw [if_neg hn]
    rfl
   rw [e]
   by_cases hz : lots.length = 0
   ·refine Ev.step (fun k => by simp only [tensileref08_Fault.j0]; rw [if_neg (by decide), if_pos (by omega)]) ?_
    refine Ev.step (fun k => by simp only [tensileref08_Fault.j1]; rw [if_pos trivial]) ?_
    rw [if_pos (.inl hz)]
    exact Ev.now 1
   ·cases hw : withinB spread 0 100
    ·refine Ev.step (fun k => by simp only [tensileref08_Fault.j0]; rw [if_neg (by decide), if_neg (by omega), In_eq, hw, Option.bind_some, Bool.not_false]) ?_
     refine Ev.step (fun k => by simp only [tensileref08_Fault.j1]; rw [if_pos trivial]) ?_
     rw [if_pos (.inr (.inr (.inr (.inl rfl))))]
     exact Ev.now 1
    ·refine Ev.step (fun k => by simp only [tensileref08_Fault.j0]; rw [if_neg (by decide), if_neg (by omega), In_eq, hw, Option.bind_some, Bool.not_true]) ?_
     refine Ev.step (fun k => by simp only [tensileref08_Fault.j1]; rw [if_neg (by decide)]) ?_
     have e2 : (if (lots.all fun x => lotB x.f0 x.f1) = true then (if samples.all (sampB lots.length) = true then (if labs.all (fun x => labB samples.length (m75 x)) = true then (0 : Int) else 1) else 1) else 1) = if lots.length = 0 ∨ (lots.all fun x => lotB x.f0 x.f1) = false ∨ (samples.all (sampB lots.length)) = false ∨ true = false ∨ (labs.all fun x => labB samples.length (m75 x)) = false then 1 else 0 := by
      cases (lots.all fun x => lotB x.f0 x.f1) <;> cases samples.all (sampB lots.length) <;> cases (labs.all fun x => labB samples.length (m75 x)) <;> simp [hz]
     rw [← e2]
     exact h0
 unfold tensileref08_Fault.f
 by_cases h1 : 4 < lots.length
 ·refine Ev.congr (fun k => by rw [if_pos (by omega)]) (hj true (decide_eq_true (.inl h1)).symm)
 ·by_cases h2 : 8 < samples.length
  ·refine Ev.congr (fun k => by rw [if_neg (by omega), if_pos (by omega)]) (hj true (decide_eq_true (.inr (.inl h2))).symm)
  ·refine Ev.congr (fun k => by rw [if_neg (by omega), if_neg (by omega)]) (hj _ ?_)
   rw [Bool.eq_iff_iff, decide_eq_true_eq, decide_eq_true_eq]
   omega
end
end Go.Proofs.Ytcpbhklaffgokaa.Q
namespace Go.Proofs.Ytcpbhklaffgokaa.Q
open Go.RowKit Go.Proofs.YtcpbhklaffgokaaW.PrintWords Go.Proofs.YtcpbhklaffgokaaW.PrintLast Go.Proofs.YtcpbhklaffgokaaW.PrintMore
set_option linter.unusedVariables false
set_option linter.unusedSimpArgs false
noncomputable def tr (p : Prop) : Bool := @decide p (Classical.propDecidable p)
theorem tr_iff {p : Prop} : tr p = true ↔ p := by
 unfold tr
 exact @decide_eq_true_iff p (Classical.propDecidable p)
theorem tr_yes {p : Prop} (h : p) : tr p = true := tr_iff.2 h
theorem tr_no {p : Prop} (h : ¬ p) : tr p = false := by
 cases e : tr p
 ·rfl
 ·exact absurd (tr_iff.1 e) h
theorem tr_congr {p q : Prop} (h : p ↔ q) : tr p = tr q := by rw [propext h]
theorem bool_ext {a b : Bool} (h : a = true ↔ b = true) : a = b := Bool.eq_iff_iff.2 h
theorem Has_ev (l : List Int) (x : Int) (hl : l.length ≤ 9223372036854775807) : Ev (fun k => tensileref08_Has.f k l x) (l.contains x) := by
 have key : ∀ d i : Nat, l.length - i = d → Ev (fun k => tensileref08_Has.l0 k l x (i : Int)) ((l.drop i).contains x) := by
  intro d
  induction d with
  | zero =>
   intro i hd
   rw [drop_end l i (by omega)]
   refine Ev.step (fun k => by simp only [tensileref08_Has.l0]; rw [if_neg (by omega)]) ?_
   exact Ev.now _
  | succ d ih =>
   intro i hd
   have hlt : i < l.length := by omega
   rw [rd_drop l i hlt]
   by_cases h : rd l (i : Int) = x
   ·refine Ev.step (fun k => by simp only [tensileref08_Has.l0]; rw [if_pos (by omega), if_pos (by omega), if_pos h]) ?_
    have : (rd l (i : Int) :: l.drop (i + 1)).contains x = true := by simp [h]
    rw [this]
    exact Ev.now _
   ·refine Ev.step (fun k => by simp only [tensileref08_Has.l0]; rw [if_pos (by omega), if_pos (by omega), if_neg h, wr1 i _ hlt hl]) ?_
    have : (rd l (i : Int) :: l.drop (i + 1)).contains x = (l.drop (i + 1)).contains x := by
     refine bool_ext ?_
     simp only [List.contains_iff_mem, List.mem_cons]
     constructor
     ·rintro (h' | h')
      ·exact absurd h'.symm h
      ·exact h'
     ·exact .inr
    rw [this]
    exact ih (i + 1) (by omega)
 have := key l.length 0 (by omega)
 rwa [List.drop_zero] at this
section
variable (lots : List S44) (samples : List Int) (spread : Int) (labs : List S62)
def inB (v : Int) (r : S46) : Bool := decide (r.f0 ≤ v) && decide (v ≤ r.f1)
theorem inB_iff (v : Int) (r : S46) : inB v r = true ↔ inR v r := by simp [inB, inR]
theorem Agrees_l0 {m : Nat} (l : List Int) (lab d i v : Int) (hl : l.length ≤ 9223372036854775807) (hc : labs.length ≤ 9223372036854775807) (hi0 : 0 ≤ i) (hi : i < m) (hd0 : -2001 ≤ d) (hd1 : d ≤ 2001) (hk : ∀ x ∈ labs, LabOk m (m75 x)) :
  ∀ t j : Nat, labs.length - j = t → Ev (fun k => tensileref08_Agrees.l0 k l lab d i v (j : Int) lots samples spread labs) ((readsFrom (offOf l) lab d i j ((labs.drop j).map m75)).all (inB v)) := by
 intro t
 induction t with
 | zero =>
  intro j hd
  rw [drop_end labs j (by omega)]
  refine Ev.step (fun k => by simp only [tensileref08_Agrees.l0]; rw [if_neg (by omega)]) ?_
  exact Ev.now _
 | succ t ih =>
  intro j hd
  have hlt : j < labs.length := by omega
  have hdr := rd62_drop labs j hlt
  have hx := hk _ (mem_drop0 hdr)
  have hnext := ih (j + 1) (by omega)
  rw [← wr1 j _ hlt hc] at hnext
  rw [hdr, List.map_cons]
  generalize hxe : rd_T62 labs (j : Int) = x at hx ⊢
  obtain ⟨h0, h1, h2, h3⟩ := hx
  change 0 ≤ x.f0 at h0
  change x.f0 ≤ 100 at h1
  change x.f1.length = m at h2
  change ∀ n ∈ x.f1, -1 ≤ n ∧ n ≤ 1000 at h3
  have hr : -1 ≤ rd x.f1 i ∧ rd x.f1 i ≤ 1000 := by
   refine h3 _ ?_
   unfold rd
   rw [List.getD_eq_getElem?_getD, List.getElem?_eq_getElem (show i.toNat < x.f1.length by omega)]
   exact List.getElem_mem _
  have hrl : rdL (m75 x) i = rd x.f1 i := rfl
  have e0 : ∀ q : Bool, readsFrom (offOf l) lab d i j (m75 x :: (labs.drop (j + 1)).map m75) = if offOf l j = true ∨ rd x.f1 i = -1 then readsFrom (offOf l) lab d i (j + 1) ((labs.drop (j + 1)).map m75) else rangeOf lab d i j (m75 x) :: readsFrom (offOf l) lab d i (j + 1) ((labs.drop (j + 1)).map m75) := fun _ => rfl
  rw [e0 true]
  have hj : ∀ b : Bool, b = (decide (rd x.f1 i < 0) || offOf l j) → Ev (fun k => tensileref08_Agrees.j1 k l lab d i v (j : Int) (rd x.f1 i) b lots samples spread labs) ((if offOf l j = true ∨ rd x.f1 i = -1 then readsFrom (offOf l) lab d i (j + 1) ((labs.drop (j + 1)).map m75) else rangeOf lab d i j (m75 x) :: readsFrom (offOf l) lab d i (j + 1) ((labs.drop (j + 1)).map m75)).all (inB v)) := by
   intro b hb
   cases b with
   | true =>
    have : offOf l j = true ∨ rd x.f1 i = -1 := by
     have := hb.symm
     simp only [Bool.or_eq_true, decide_eq_true_eq] at this
     rcases this with h | h
     ·right; omega
     ·left; exact h
    rw [if_pos this]
    refine Ev.step (fun k => by simp only [tensileref08_Agrees.j1]; rw [if_pos trivial]) ?_
    exact hnext
   | false =>
    have hn : ¬ (offOf l j = true ∨ rd x.f1 i = -1) := by
     have := hb.symm
     simp only [Bool.or_eq_false_iff, decide_eq_false_iff_not] at this
     rintro (h | h)
     ·rw [h] at this; cases this.2
     ·omega
    rw [if_neg hn, List.all_cons]
    by_cases hlab : (j : Int) = lab
    ·have hb2 : inB v (rangeOf lab d i j (m75 x)) = withinB v (wrap64 (wrap64 (rd x.f1 i - d) - x.f0)) (wrap64 (wrap64 (rd x.f1 i - d) + x.f0)) := by
      rw [wr (rd x.f1 i - d) (by omega) (by omega), wr _ (by omega) (by omega), wr _ (by omega) (by omega)]
      unfold rangeOf
      rw [if_pos hlab, hrl]
      rfl
     rw [hb2]
     cases hw : withinB v (wrap64 (wrap64 (rd x.f1 i - d) - x.f0)) (wrap64 (wrap64 (rd x.f1 i - d) + x.f0))
     ·refine Ev.step (fun k => by simp only [tensileref08_Agrees.j1]; rw [if_neg (by decide), if_pos hlab, if_pos (by omega), if_pos (by omega), hxe, In_eq, hw, Option.bind_some, if_neg (by decide)]) ?_
      exact Ev.now _
     ·refine Ev.step (fun k => by simp only [tensileref08_Agrees.j1]; rw [if_neg (by decide), if_pos hlab, if_pos (by omega), if_pos (by omega), hxe, In_eq, hw, Option.bind_some, if_pos rfl]) ?_
      rw [Bool.true_and]
      exact hnext
    ·have hb2 : inB v (rangeOf lab d i j (m75 x)) = withinB v (wrap64 (rd x.f1 i - x.f0)) (wrap64 (rd x.f1 i + x.f0)) := by
      rw [wr _ (by omega) (by omega), wr _ (by omega) (by omega)]
      unfold rangeOf
      rw [if_neg hlab, hrl]
      rfl
     rw [hb2]
     cases hw : withinB v (wrap64 (rd x.f1 i - x.f0)) (wrap64 (rd x.f1 i + x.f0))
     ·refine Ev.step (fun k => by simp only [tensileref08_Agrees.j1]; rw [if_neg (by decide), if_neg hlab, if_pos (by omega), if_pos (by omega), hxe, In_eq, hw, Option.bind_some, if_neg (by decide)]) ?_
      exact Ev.now _
     ·refine Ev.step (fun k => by simp only [tensileref08_Agrees.j1]; rw [if_neg (by decide), if_neg hlab, if_pos (by omega), if_pos (by omega), hxe, In_eq, hw, Option.bind_some, if_pos rfl]) ?_
      rw [Bool.true_and]
      exact hnext
  by_cases hneg : rd x.f1 i < 0
  ·refine Ev.step (fun k => by simp only [tensileref08_Agrees.l0]; rw [if_pos (by omega), if_pos (by omega), if_pos hi0, hxe, if_pos (by omega), if_pos hneg]) ?_
   exact hj true (by rw [decide_eq_true hneg, Bool.true_or])
  ·refine Ev.step (fun k => by simp only [tensileref08_Agrees.l0]; rw [if_pos (by omega), if_pos (by omega), if_pos hi0, hxe, if_pos (by omega), if_neg hneg]) ?_
   refine Ev.bind (Has_ev l (j : Int) hl) (hj _ ?_)
   rw [decide_eq_false hneg, Bool.false_or]
   rfl
theorem Agrees_ev {m : Nat} (l : List Int) (lab d i v : Int) (hl : l.length ≤ 9223372036854775807) (hc : labs.length ≤ 9223372036854775807) (hi0 : 0 ≤ i) (hi : i < m) (hd0 : -2001 ≤ d) (hd1 : d ≤ 2001) (hk : ∀ x ∈ labs, LabOk m (m75 x)) (hv0 : -1000000 ≤ v) (hv1 : v ≤ 1000000) :
  Ev (fun k => tensileref08_Agrees.f k lots samples spread labs l lab d i v) (tr (inR v (sampR (labs.map m75) (offOf l) lab d i))) := by
 have h := Agrees_l0 lots samples spread labs l lab d i v hl hc hi0 hi hd0 hd1 hk labs.length 0 (by omega)
 rw [List.drop_zero] at h
 have e : (readsFrom (offOf l) lab d i 0 (labs.map m75)).all (inB v) = tr (inR v (sampR (labs.map m75) (offOf l) lab d i)) := by
  refine bool_ext ?_
  rw [tr_iff, List.all_eq_true]
  unfold sampR
  rw [inR_fold]
  constructor
  ·intro h
   exact ⟨⟨by show (-1073741824 : Int) ≤ v; omega, by show v ≤ (1073741824 : Int); omega⟩, fun r hr => (inB_iff v r).1 (h r hr)⟩
  ·rintro ⟨_, h⟩ r hr
   exact (inB_iff v r).2 (h r hr)
 rw [e] at h
 exact h
theorem Near_ev {m : Nat} (l : List Int) (lab d i v : Int) (hl : l.length ≤ 9223372036854775807) (hc : labs.length ≤ 9223372036854775807) (hi0 : 0 ≤ i) (hi : i < m) (hd0 : -2001 ≤ d) (hd1 : d ≤ 2001) (hk : ∀ x ∈ labs, LabOk m (m75 x)) (hv0 : -10000 ≤ v) (hv1 : v ≤ 10000) (hs0 : 0 ≤ spread) (hs1 : spread ≤ 100) :
  Ev (fun k => tensileref08_Near.f k lots samples spread labs l lab d i v) (tr (∃ u, inR u (sampR (labs.map m75) (offOf l) lab d i) ∧ u - spread ≤ v ∧ v ≤ u + spread)) := by
 have hw1 : wrap64 (v + spread) = v + spread := wr _ (by omega) (by omega)
 have hw0 : wrap64 (v - spread) = v - spread := wr _ (by omega) (by omega)
 have key : ∀ (t : Nat) (u : Int), v - spread ≤ u → (v + spread + 1 - u).toNat = t → u ≤ v + spread + 1 → Ev (fun k => tensileref08_Near.l0 k l lab d i v u lots samples spread labs) (tr (∃ u', u ≤ u' ∧ u' ≤ v + spread ∧ inR u' (sampR (labs.map m75) (offOf l) lab d i))) := by
  intro t
  induction t with
  | zero =>
   intro u hu0 ht hu
   rw [tr_no (by rintro ⟨u', h1, h2, _⟩; omega)]
   refine Ev.step (fun k => by simp only [tensileref08_Near.l0]; rw [hw1, if_neg (by omega)]) ?_
   exact Ev.now _
  | succ t ih =>
   intro u hu0 ht hu
   have ha := Agrees_ev lots samples spread labs l lab d i u hl hc hi0 hi hd0 hd1 hk (by omega) (by omega)
   refine Ev.step (fun k => by simp only [tensileref08_Near.l0]; rw [hw1, if_pos (by omega)]) ?_
   refine Ev.bind ha ?_
   cases hb : tr (inR u (sampR (labs.map m75) (offOf l) lab d i))
   ·refine Ev.congr (fun k => by rw [if_neg (by decide), wr _ (by omega) (by omega)]) ?_
    have hno : ¬ inR u (sampR (labs.map m75) (offOf l) lab d i) := fun h => by rw [tr_yes h] at hb; cases hb
    rw [tr_congr (q := ∃ u', u + 1 ≤ u' ∧ u' ≤ v + spread ∧ inR u' (sampR (labs.map m75) (offOf l) lab d i))]
    ·exact ih (u + 1) (by omega) (by omega) (by omega)
    ·constructor
     ·rintro ⟨u', h1, h2, h3⟩
      by_cases e : u' = u
      ·subst e; exact absurd h3 hno
      ·exact ⟨u', by omega, h2, h3⟩
     ·rintro ⟨u', h1, h2, h3⟩
      exact ⟨u', by omega, h2, h3⟩
   ·rw [tr_yes ⟨u, Int.le_refl _, by omega, tr_iff.1 hb⟩]
    refine Ev.congr (fun k => by rw [if_pos rfl]) ?_
    exact Ev.now _
 have h := key _ (v - spread) (Int.le_refl _) rfl (by omega)
 unfold tensileref08_Near.f
 rw [hw0]
 rw [tr_congr (q := ∃ u', v - spread ≤ u' ∧ u' ≤ v + spread ∧ inR u' (sampR (labs.map m75) (offOf l) lab d i))]
 ·exact h
 ·constructor
  ·rintro ⟨u, h1, h2, h3⟩; exact ⟨u, by omega, by omega, h1⟩
  ·rintro ⟨u, h1, h2, h3⟩; exact ⟨u, h3, by omega, by omega⟩
theorem LotFits_ev (l : List Int) (lab d v : Int) (L : Nat) (hl : l.length ≤ 9223372036854775807) (hok : RoundOk (lots.map m46) samples spread (labs.map m75)) (hd0 : -2001 ≤ d) (hd1 : d ≤ 2001) (hv0 : -10000 ≤ v) (hv1 : v ≤ 10000) :
  Ev (fun k => tensileref08_LotFits.f k lots samples spread labs l lab d (L : Int) v) (tr (fitsP (labs.map m75) samples spread (offOf l) lab d L v)) := by
 have hc : labs.length ≤ 9223372036854775807 := by have := hok.b6; rw [List.length_map] at this; omega
 have hk : ∀ x ∈ labs, LabOk samples.length (m75 x) := fun x hx => hok.labs _ (List.mem_map_of_mem hx)
 have hs8 := hok.s8
 have key : ∀ (t i : Nat), samples.length - i = t → Ev (fun k => tensileref08_LotFits.l0 k l lab d (L : Int) v (i : Int) lots samples spread labs) (tr (∀ j, i ≤ j → j < samples.length → (samples.getD j 0).toNat = L → ∃ u, inR u (sampR (labs.map m75) (offOf l) lab d (j : Int)) ∧ u - spread ≤ v ∧ v ≤ u + spread)) := by
  intro t
  induction t with
  | zero =>
   intro i ht
   rw [tr_yes (fun j h1 h2 => by omega)]
   refine Ev.step (fun k => by simp only [tensileref08_LotFits.l0]; rw [if_neg (by omega)]) ?_
   exact Ev.now _
  | succ t ih =>
   intro i ht
   have hlt : i < samples.length := by omega
   have hnext := ih (i + 1) (by omega)
   rw [← wr1 i _ hlt (by omega)] at hnext
   have hrd : rd samples (i : Int) = samples.getD i 0 := by unfold rd; rw [Int.toNat_natCast]
   have hs := hok.smp (samples.getD i 0) (by rw [List.getD_eq_getElem?_getD, List.getElem?_eq_getElem hlt]; exact List.getElem_mem _)
   by_cases he : rd samples (i : Int) = (L : Int)
   ·have hn := Near_ev lots samples spread labs (m := samples.length) l lab d (i : Int) v hl hc (by omega) (by omega) hd0 hd1 hk hv0 hv1 hok.sp0 hok.sp1
    refine Ev.step (fun k => by simp only [tensileref08_LotFits.l0]; rw [if_pos (by omega), if_pos (by omega), if_pos he]) ?_
    refine Ev.bind hn ?_
    cases hb : tr (∃ u, inR u (sampR (labs.map m75) (offOf l) lab d (i : Int)) ∧ u - spread ≤ v ∧ v ≤ u + spread)
    ·rw [tr_no (fun h => by
      have := h i (Nat.le_refl _) hlt (by rw [hrd] at he; omega)
      rw [tr_yes this] at hb
      cases hb)]
     refine Ev.congr (fun k => by rw [if_neg (by decide)]) ?_
     exact Ev.now _
    ·refine Ev.congr (fun k => by rw [if_pos rfl]) ?_
     rw [tr_congr]
     ·exact hnext
     ·constructor
      ·intro h j h1 h2 h3; exact h j (by omega) h2 h3
      ·intro h j h1 h2 h3
       by_cases e : j = i
       ·subst e; exact tr_iff.1 hb
       ·exact h j (by omega) h2 h3
   ·refine Ev.step (fun k => by simp only [tensileref08_LotFits.l0]; rw [if_pos (by omega), if_pos (by omega), if_neg he]) ?_
    rw [tr_congr]
    ·exact hnext
    ·constructor
     ·intro h j h1 h2 h3; exact h j (by omega) h2 h3
     ·intro h j h1 h2 h3
      by_cases e : j = i
      ·subst e; rw [hrd] at he; omega
      ·exact h j (by omega) h2 h3
 have h := key _ 0 rfl
 unfold tensileref08_LotFits.f
 rw [tr_congr]
 ·exact h
 ·unfold fitsP
  exact ⟨fun h j _ h2 h3 => h j h2 h3, fun h j h2 h3 => h j (by omega) h2 h3⟩
def valsOf (p : Int → Bool) : Nat → Int → List Int
 | 0, _ => []
 | n + 1, v => if p v = true then v :: valsOf p n (v + 1) else valsOf p n (v + 1)
theorem mem_valsOf (p : Int → Bool) (u : Int) : ∀ (n : Nat) (v : Int), u ∈ valsOf p n v ↔ v ≤ u ∧ u < v + n ∧ p u = true := by
 intro n
 induction n with
 | zero => intro v; simp only [valsOf, List.not_mem_nil, false_iff]; omega
 | succ n ih =>
  intro v
  simp only [valsOf]
  by_cases h : p v = true
  ·rw [if_pos h, List.mem_cons, ih]
   constructor
   ·rintro (rfl | ⟨h1, h2, h3⟩)
    ·exact ⟨Int.le_refl _, by omega, h⟩
    ·exact ⟨by omega, by omega, h3⟩
   ·rintro ⟨h1, h2, h3⟩
    by_cases e : u = v
    ·exact .inl e
    ·exact .inr ⟨by omega, by omega, h3⟩
  ·rw [if_neg h, ih]
   constructor
   ·rintro ⟨h1, h2, h3⟩
    exact ⟨by omega, by omega, h3⟩
   ·rintro ⟨h1, h2, h3⟩
    have e : u ≠ v := fun e => by subst e; exact h h3
    exact ⟨by omega, by omega, h3⟩
noncomputable def lotV (o : Nat → Bool) (lab d : Int) (L : Nat) : List Int :=
 valsOf (fun v => tr (fitsP (labs.map m75) samples spread o lab d L v)) ((rd_T44 lots (L : Int)).f1 + 1 - (rd_T44 lots (L : Int)).f0).toNat (rd_T44 lots (L : Int)).f0
noncomputable def lotsV (o : Nat → Bool) (lab d : Int) : Nat → Nat → List (List Int)
 | 0, _ => []
 | n + 1, L => lotV lots samples spread labs o lab d L :: lotsV o lab d n (L + 1)
theorem getD46 (L : Nat) (h : L < lots.length) : (lots.map m46).getD L z46 = m46 (rd_T44 lots (L : Int)) := by
 rw [List.getD_eq_getElem?_getD, List.getElem?_map, rd_T44, Int.toNat_natCast, List.getD_eq_getElem?_getD, List.getElem?_eq_getElem h]
 rfl
theorem lot_ok (hok : RoundOk (lots.map m46) samples spread (labs.map m75)) (L : Nat) (h : L < lots.length) : 0 ≤ (rd_T44 lots (L : Int)).f0 ∧ (rd_T44 lots (L : Int)).f0 ≤ (rd_T44 lots (L : Int)).f1 ∧ (rd_T44 lots (L : Int)).f1 ≤ 1000 := by
 have hm : rd_T44 lots (L : Int) ∈ lots := by
  rw [rd_T44, Int.toNat_natCast, List.getD_eq_getElem?_getD, List.getElem?_eq_getElem h]
  exact List.getElem_mem _
 exact hok.lot _ (List.mem_map_of_mem hm)
theorem Lots_ev (l : List Int) (lab d : Int) (hl : l.length ≤ 9223372036854775807) (hok : RoundOk (lots.map m46) samples spread (labs.map m75)) (hd0 : -2001 ≤ d) (hd1 : d ≤ 2001) :
  Ev (fun k => tensileref08_Lots.f k lots samples spread labs l lab d) (lotsV lots samples spread labs (offOf l) lab d lots.length 0, (lotsV lots samples spread labs (offOf l) lab d lots.length 0).all fun x => decide (0 < x.length)) := by
 have h4 := hok.l4
 rw [List.length_map] at h4
 have key : ∀ (t L : Nat) (x10 : List (List Int)) (x11 : Bool), lots.length - L = t → L ≤ lots.length → x10.length = L →
   Ev (fun k => tensileref08_Lots.l0 k l lab d x10 x11 (L : Int) lots samples spread labs) (x10 ++ lotsV lots samples spread labs (offOf l) lab d t L, x11 && (lotsV lots samples spread labs (offOf l) lab d t L).all fun x => decide (0 < x.length)) := by
  intro t
  induction t with
  | zero =>
   intro L x10 x11 ht hL hx
   refine Ev.step (fun k => by simp only [tensileref08_Lots.l0]; rw [if_neg (by omega)]) ?_
   simp only [lotsV, List.append_nil, List.all_nil, Bool.and_true]
   exact Ev.now _
  | succ t ih =>
   intro L x10 x11 ht hL hx
   have hlt : L < lots.length := by omega
   obtain ⟨b0, b1, b2⟩ := lot_ok lots samples spread labs hok L hlt
   refine Ev.step (fun k => by simp only [tensileref08_Lots.l0]; rw [if_pos (by omega), if_pos (by omega)]) ?_
   have inner : ∀ (n : Nat) (v : Int) (x13 : List Int), (rd_T44 lots (L : Int)).f0 ≤ v → ((rd_T44 lots (L : Int)).f1 + 1 - v).toNat = n → v ≤ (rd_T44 lots (L : Int)).f1 + 1 → x13.length + n ≤ 2000 →
     Ev (fun k => tensileref08_Lots.l1 k l lab d x10 x11 (L : Int) x13 v lots samples spread labs) (x10 ++ (x13 ++ valsOf (fun v => tr (fitsP (labs.map m75) samples spread (offOf l) lab d L v)) n v) :: lotsV lots samples spread labs (offOf l) lab d t (L + 1), x11 && (decide (0 < (x13 ++ valsOf (fun v => tr (fitsP (labs.map m75) samples spread (offOf l) lab d L v)) n v).length) && (lotsV lots samples spread labs (offOf l) lab d t (L + 1)).all fun x => decide (0 < x.length))) := by
    intro n
    induction n with
    | zero =>
     intro v x13 hv0 hn hv hx13
     simp only [valsOf, List.append_nil]
     have hnext := ih (L + 1) (x10 ++ [x13]) (x11 && decide (0 < x13.length)) (by omega) (by omega) (by rw [List.length_append, hx]; rfl)
     rw [← wr1 L _ hlt (by omega)] at hnext
     refine Ev.step (fun k => by simp only [tensileref08_Lots.l1]; rw [if_pos (by omega), if_pos (by omega), if_neg (by omega), if_pos (by omega)]) ?_
     simp only [List.append_assoc, List.singleton_append, Bool.and_assoc] at hnext
     cases x11 with
     | true =>
      refine Ev.congr (fun k => by rw [Option.bind_some, if_pos rfl]) ?_
      have e : decide ((x13.length : Int) > 0) = decide (0 < x13.length) := by
       refine bool_ext ?_
       rw [decide_eq_true_eq, decide_eq_true_eq]
       omega
      rw [e]
      simpa using hnext
     | false =>
      refine Ev.congr (fun k => by rw [Option.bind_some, if_neg (by decide)]) ?_
      simpa using hnext
    | succ n ihn =>
     intro v x13 hv0 hn hv hx13
     have hf := LotFits_ev lots samples spread labs l lab d v L hl hok hd0 hd1 (by omega) (by omega)
     refine Ev.step (fun k => by simp only [tensileref08_Lots.l1]; rw [if_pos (by omega), if_pos (by omega), if_pos (by omega)]) ?_
     refine Ev.bind hf ?_
     obtain hb | hb : tr (fitsP (labs.map m75) samples spread (offOf l) lab d L v) = false ∨ tr (fitsP (labs.map m75) samples spread (offOf l) lab d L v) = true := by
      cases tr (fitsP (labs.map m75) samples spread (offOf l) lab d L v)
      ·exact .inl rfl
      ·exact .inr rfl
     ·refine Ev.congr (fun k => by rw [hb, if_neg (by decide), wr _ (by omega) (by omega)]) ?_
      rw [show valsOf (fun v => tr (fitsP (labs.map m75) samples spread (offOf l) lab d L v)) (n + 1) v = valsOf (fun v => tr (fitsP (labs.map m75) samples spread (offOf l) lab d L v)) n (v + 1) from by simp only [valsOf]; rw [if_neg (by rw [hb]; decide)]]
      exact ihn (v + 1) x13 (by omega) (by omega) (by omega) (by omega)
     ·refine Ev.congr (fun k => by rw [hb, if_pos rfl, if_pos (by omega), wr _ (by omega) (by omega)]) ?_
      rw [show valsOf (fun v => tr (fitsP (labs.map m75) samples spread (offOf l) lab d L v)) (n + 1) v = v :: valsOf (fun v => tr (fitsP (labs.map m75) samples spread (offOf l) lab d L v)) n (v + 1) from by simp only [valsOf]; rw [if_pos hb]]
      have := ihn (v + 1) (x13 ++ [v]) (by omega) (by omega) (by omega) (by rw [List.length_append]; simp only [List.length_singleton]; omega)
      simpa only [List.append_assoc, List.singleton_append] using this
   have h := inner _ (rd_T44 lots (L : Int)).f0 [] (Int.le_refl _) rfl (by omega) (by simp only [List.length_nil]; omega)
   simpa only [List.nil_append, lotsV, lotV, List.all_cons] using h
 have h := key lots.length 0 [] true (by omega) (by omega) rfl
 simp only [List.nil_append, Bool.true_and] at h
 exact h
theorem lotsV_all (o : Nat → Bool) (lab d : Int) (q : List Int → Bool) : ∀ (n L : Nat), (lotsV lots samples spread labs o lab d n L).all q = true ↔ ∀ j, L ≤ j → j < L + n → q (lotV lots samples spread labs o lab d j) = true := by
 intro n
 induction n with
 | zero => intro L; simp only [lotsV, List.all_nil, true_iff]; intro j h1 h2; omega
 | succ n ih =>
  intro L
  simp only [lotsV, List.all_cons, Bool.and_eq_true, ih]
  constructor
  ·rintro ⟨h1, h2⟩ j h3 h4
   by_cases e : j = L
   ·subst e; exact h1
   ·exact h2 j (by omega) (by omega)
  ·intro h
   exact ⟨h L (Nat.le_refl _) (by omega), fun j h1 h2 => h j (by omega) (by omega)⟩
theorem mem_lotV (o : Nat → Bool) (lab d : Int) (hok : RoundOk (lots.map m46) samples spread (labs.map m75)) (L : Nat) (hL : L < lots.length) (v : Int) : v ∈ lotV lots samples spread labs o lab d L ↔ inR v ((lots.map m46).getD L z46) ∧ fitsP (labs.map m75) samples spread o lab d L v := by
 obtain ⟨b0, b1, b2⟩ := lot_ok lots samples spread labs hok L hL
 unfold lotV
 rw [mem_valsOf, tr_iff, getD46 lots L hL]
 simp only [inR, m46]
 constructor
 ·rintro ⟨h1, h2, h3⟩; exact ⟨⟨by omega, by omega⟩, h3⟩
 ·rintro ⟨⟨h1, h2⟩, h3⟩; exact ⟨by omega, by omega, h3⟩
theorem lotsV_can (o : Nat → Bool) (lab d : Int) (hok : RoundOk (lots.map m46) samples spread (labs.map m75)) : ((lotsV lots samples spread labs o lab d lots.length 0).all fun x => decide (0 < x.length)) = (spansF (lots.map m46) samples spread (labs.map m75) o lab d).2 := by
 refine bool_ext ?_
 rw [can_iff hok, lotsV_all]
 have e : (lots.map m46).length = lots.length := List.length_map _
 rw [e]
 constructor
 ·intro h L hL
  have := of_decide_eq_true (h L (by omega) (by omega))
  obtain ⟨v, hv⟩ := List.exists_mem_of_length_pos this
  exact ⟨v, (mem_lotV lots samples spread labs o lab d hok L hL v).1 hv⟩
 ·intro h L _ hL
  obtain ⟨v, hv⟩ := h L (by omega)
  exact decide_eq_true (List.length_pos_of_mem ((mem_lotV lots samples spread labs o lab d hok L (by omega) v).2 hv))
theorem Explains_ev (l : List Int) (hl : l.length ≤ 9223372036854775807) (hok : RoundOk (lots.map m46) samples spread (labs.map m75)) : Ev (fun k => tensileref08_Explains.f k lots samples spread labs l) (canF (lots.map m46) samples spread (labs.map m75) (offOf l)) := by
 unfold tensileref08_Explains.f
 refine Ev.bind (Lots_ev lots samples spread labs l (-1) 0 hl hok (by omega) (by omega)) ?_
 simp only [lotsV_can lots samples spread labs _ _ _ hok]
 exact Ev.now _
end
end Go.Proofs.Ytcpbhklaffgokaa.Q
namespace Go.Proofs.Ytcpbhklaffgokaa.Q
open Go.RowKit Go.Proofs.YtcpbhklaffgokaaW.PrintWords Go.Proofs.YtcpbhklaffgokaaW.PrintLast Go.Proofs.YtcpbhklaffgokaaW.PrintMore
set_option linter.unusedVariables false
set_option linter.unusedSimpArgs false
def leastF (lots : List S46) (samples : List Int) (spread : Int) (labs : List S75) : List Int × Int :=
 if checkRound lots samples spread labs = 0 then ((fewestF lots samples spread labs).getD 0 [], 0) else ([], checkRound lots samples spread labs)
def LPost (w : World) (r : List Int × Int) (e : Ending) (w' : World) : Prop :=
 ∃ v, e = .returned (.tuple #[v, .int .i64 r.2]) ∧ Kd.R (Kd.int .i64) 3 w' w.heap.size (fun _ => True) v r.1 ∧ Below w.heap.size w w'
theorem first_list {W : World} {base : Nat} {v : Value} {xs : List (List Int)} (h : Kd.R kll 23 W base (fun _ => True) v xs) (hp : 0 < xs.length) :
  ∃ g n c u, v = .slice (some ⟨g, 0, none⟩) n c ∧ 0 < n ∧ n = xs.length ∧ W.cell? ⟨g, 0, none⟩ = some u ∧ Kd.R (Kd.int .i64) 3 W base (fun _ => True) u (xs.getD 0 []) := by
 obtain ⟨g, cap, rfl, _⟩ := Kd.R_form h hp
 obtain ⟨c, hc, hM, hcell, _⟩ := Kd.R_elem h [] 0 (by omega) (by omega)
 obtain ⟨u, rfl, hu⟩ := hM
 refine ⟨g, _, cap, u, rfl, hp, rfl, ?_, ?_⟩
 ·have := hcell 0 u rfl
  simpa using this
 ·have := Kd.R_mono hu (fun _ _ => trivial)
  simpa using this
set_option maxHeartbeats 4000000 in
set_option maxRecDepth 100000 in
theorem Least_any (A0 : Option Addr) (c0 : Nat) (lots : List S46) (A1 : Option Addr) (c1 : Nat) (samples : List Int) (spread : Int) (A3 : Option Addr) (c3 : Nat) (labs : List S75) (w : World) (hr0 : Kd.C k46 w A0 lots.length lots) (hr1 : (Kd.int .i64).C w A1 samples.length samples) (hr3 : Kd.C k75 w A3 labs.length labs) (hne : checkRound lots samples spread labs = 0 → 0 < (fewestF lots samples spread labs).length) :
  Calls Try.prog 29 #[.agg #[.slice A0 lots.length c0, .slice A1 samples.length c1, .int .i64 spread, .slice A3 labs.length c3]] w (LPost w (leastF lots samples spread labs)) := by
 by_cases hc : checkRound lots samples spread labs = 0
 ·have HX : leastF lots samples spread labs = ((fewestF lots samples spread labs).getD 0 [], 0) := by unfold leastF; rw [if_pos hc]
  rw [HX]
  have HN := Aside0.mk (hne hc)
  have HC := Aside0.mk (judge_ok A0 c0 lots A1 c1 samples spread A3 c3 labs (w.alloc (.cells #[.slice A0 lots.length c0, .slice A1 samples.length c1, .int .i64 spread, .slice A3 labs.length c3] 34)) (Kd.C_alloc hr0 _) (Kd.C_alloc hr1 _) (Kd.C_alloc hr3 _) hc)
  have HB0 := Aside0.mk (below_alloc (Below.refl _ w) (.cells #[.slice A0 lots.length c0, .slice A1 samples.length c1, .int .i64 spread, .slice A3 labs.length c3] 34))
  have hok := Aside0.mk (roundOk_of_check hc)
  clear HX hr0 hr1 hr3 hc hne
  go_enter Try.func29, Try.ntmps29
  go_wp2_with (go_at_call 57; refine Aside0.out ?_)
  refine ⟨?_⟩
  refine HC.out.mono ?_
  clear HC
  rintro e w1 ⟨jb, mb, rfl, hj⟩
  have HF := Aside0.mk (fewest_any _ jb mb A0 c0 lots A1 c1 samples spread A3 c3 labs w1 hj hok.out)
  clear hj
  go_wp2_with (go_at_call 58; refine Aside0.out ?_)
  refine ⟨?_⟩
  refine HF.out.mono ?_
  clear HF
  rintro e w2 ⟨v, rfl, hj2, hr2⟩
  obtain ⟨g, n, c, u, rfl, hn, _, hcell, hu⟩ := first_list hr2 HN.out
  have HFin : Aside0 (LPost w ((fewestF lots samples spread labs).getD 0 [], 0) (.returned (.tuple #[u, .int .i64 0])) w2) := ⟨u, rfl, Kd.R_lower hu (by simp), below_step HB0.out hj2.hb⟩
  clear hr2 hj2 hu
  go_wp2
  go_ret2
  exact HFin.out
 ·have HX : leastF lots samples spread labs = ([], checkRound lots samples spread labs) := by unfold leastF; rw [if_neg hc]
  rw [HX]
  have HC := Aside0.mk (judge_bad A0 c0 lots A1 c1 samples spread A3 c3 labs (w.alloc (.cells #[.slice A0 lots.length c0, .slice A1 samples.length c1, .int .i64 spread, .slice A3 labs.length c3] 34)) (Kd.C_alloc hr0 _) (Kd.C_alloc hr1 _) (Kd.C_alloc hr3 _) hc)
  have HB0 := Aside0.mk (below_alloc (Below.refl _ w) (.cells #[.slice A0 lots.length c0, .slice A1 samples.length c1, .int .i64 spread, .slice A3 labs.length c3] 34))
  clear HX hr0 hr1 hr3 hne
  generalize checkRound lots samples spread labs = c at hc HC ⊢
  have hne : (c != 0) = true := bne_iff_ne.2 hc
  clear hc
  go_enter Try.func29, Try.ntmps29
  go_wp2_with (go_at_call 57; refine Aside0.out ?_)
  refine ⟨?_⟩
  refine HC.out.mono ?_
  clear HC
  rintro e w1 ⟨rfl, hb⟩
  replace HB0 := Aside0.mk (below_step HB0.out hb)
  clear hb
  go_wp2
  go_ret2
  exact ⟨_, rfl, Kd.R_nil _ _ _ _ _, HB0.out⟩
end Go.Proofs.Ytcpbhklaffgokaa.Q
namespace Go.Proofs.Ytcpbhklaffgokaa.Q
open Go.RowKit Go.Proofs.YtcpbhklaffgokaaW.PrintWords Go.Proofs.YtcpbhklaffgokaaW.PrintLast Go.Proofs.YtcpbhklaffgokaaW.PrintMore
set_option linter.unusedVariables false
set_option linter.unusedSimpArgs false
end Go.Proofs.Ytcpbhklaffgokaa.Q
namespace Go.Proofs.Ytcpbhklaffgokaa.Q
open Go.RowKit Go.Proofs.YtcpbhklaffgokaaW.PrintWords Go.Proofs.YtcpbhklaffgokaaW.PrintLast Go.Proofs.YtcpbhklaffgokaaW.PrintMore
set_option linter.unusedVariables false
set_option linter.unusedSimpArgs false
theorem C_blk {α : Type} {d : Kd α} {W : World} {g : Nat} {cs : Array Value} {t : TypeId} {xs : List α} (hb : W.heap[g]? = some (.cells cs t (0, 0))) (hl : xs.length ≤ 1000) (f : Nat → List Value)
  (hf : ∀ j p, xs[j]? = some p → (f j).length = d.sz ∧ d.K W p (f j) ∧ ∀ i u, (f j)[i]? = some u → cs[j * d.sz + i]? = some u) : d.C W (some ⟨g, 0, none⟩) xs.length xs := by
 refine ⟨rfl, by omega, fun _ => ⟨_, rfl, fun j p hj => ?_⟩⟩
 obtain ⟨h1, h2, h3⟩ := hf j p hj
 refine ⟨f j, h1, h2, fun i u hu => ?_⟩
 have := blk_cell hb (j * d.sz + i)
 rw [show (⟨g, 0, none⟩ : Addr).add (j * d.sz + i) = ⟨g, j * d.sz + i, none⟩ by unfold Addr.add; split <;> simp_all]
 rw [this]
 exact h3 i u hu
theorem C_ints {W : World} {g : Nat} {t : TypeId} {xs : List Int} (hb : W.heap[g]? = some (.cells (encs (Value.int .i64) xs).toArray t (0, 0))) (hl : xs.length ≤ 1000) : (Kd.int .i64).C W (some ⟨g, 0, none⟩) xs.length xs := by
 refine C_blk hb hl (fun j => [.int .i64 (xs.getD j 0)]) (fun j p hj => ?_)
 have hp : xs.getD j 0 = p := by rw [List.getD_eq_getElem?_getD, hj]; rfl
 rw [hp]
 refine ⟨rfl, rfl, fun i u hu => ?_⟩
 match i, hu with
 | 0, hu =>
  simp at hu
  subst hu
  show (encs (Value.int .i64) xs).toArray[j * 1 + 0]? = _
  simp [encs, hj]
def trialLots : List S46 := [{ f0 := 100, f1 := 140 }, { f0 := 200, f1 := 260 }]
def trialSamples : List Int := [0, 0, 1]
def trialLabs : List S75 := [{ f0 := 3, f1 := [120, 122, 230] }, { f0 := 3, f1 := [124, 121, 234] }, { f0 := 2, f1 := [131, 133, 240] }, { f0 := 5, f1 := [-1, 118, 229] }]
set_option maxRecDepth 100000 in
theorem trial_pure : checkRound trialLots trialSamples 2 trialLabs = 0 ∧ explainsF trialLots trialSamples 2 trialLabs [] = (false, 0) ∧ explainsF trialLots trialSamples 2 trialLabs [2] = (true, 0) ∧ spansR trialLots trialSamples 2 trialLabs [2] = ([{ f0 := 121, f1 := 123 }, { f0 := 119, f1 := 123 }, { f0 := 231, f1 := 233 }], 0) ∧ leastF trialLots trialSamples 2 trialLabs = ([2], 0) := by
 refine ⟨?_, ?_, ?_, ?_, ?_⟩ <;> kernel_rfl
theorem blk_new' {w : World} {o : Obj} {n : Nat} (h : w.heap.size = n) : (w.alloc o).heap[n]? = some o := h ▸ blk_new w o
theorem C_46 {W : World} {g : Nat} {t : TypeId} {xs : List S46} (hb : W.heap[g]? = some (.cells (xs.flatMap fun x => [.int .i64 x.f0, .int .i64 x.f1]).toArray t (0, 0))) (hl : xs.length ≤ 1000) : Kd.C k46 W (some ⟨g, 0, none⟩) xs.length xs := by
 refine C_blk hb hl (fun j => [.int .i64 (xs.getD j z46).f0, .int .i64 (xs.getD j z46).f1]) (fun j p hj => ?_)
 have hp : xs.getD j z46 = p := by rw [List.getD_eq_getElem?_getD, hj]; rfl
 rw [hp]
 refine ⟨rfl, k46_mk _ _, fun i u hu => ?_⟩
 have key : ∀ (ys : List S46) (j : Nat), ys[j]? = some p → ∀ i u, ([.int .i64 p.f0, .int .i64 p.f1] : List Value)[i]? = some u → (ys.flatMap fun x => [Value.int .i64 x.f0, .int .i64 x.f1])[j * 2 + i]? = some u := by
  intro ys
  induction ys with
  | nil => intro j h; cases h
  | cons y ys ih =>
   intro j h i u hu
   cases j with
   | zero =>
    simp at h
    subst h
    match i, hu with
    | 0, hu => simpa using hu
    | 1, hu => simpa using hu
   | succ j =>
    simp at h
    have := ih j h i u hu
    simp only [List.flatMap_cons]
    rw [show (j + 1) * 2 + i = (j * 2 + i) + 2 by omega]
    simpa using this
 show (xs.flatMap fun x => [Value.int .i64 x.f0, .int .i64 x.f1]).toArray[j * 2 + i]? = some u
 simpa using key xs j hj i u hu
set_option maxRecDepth 100000 in
theorem trial_shifts : shiftsF trialLots trialSamples 2 trialLabs 2 = ({ f0 := 8, f1 := 11 }, 0) := by kernel_rfl
def TrialPost (w : World) (e : Ending) (w' : World) : Prop := ∃ (A0 A1 A3 : Option Addr) (c0 c1 c3 : Nat), e = .returned (.agg #[.slice A0 2 c0, .slice A1 3 c1, .int .i64 2, .slice A3 4 c3]) ∧ Kd.C k46 w' A0 2 trialLots ∧ (Kd.int .i64).C w' A1 3 trialSamples ∧ Kd.C k75 w' A3 4 trialLabs ∧ Below w.heap.size w w'
set_option maxHeartbeats 4000000 in
set_option maxRecDepth 100000 in
theorem trial_any (w : World) : Calls Try.prog 40 #[] w (TrialPost w) := by
 go_enter Try.func40, Try.ntmps40
 go_wp2
 refine bodyPost_ret (results_single rfl (.cell w.heap.size 34 _ (0, 0) _ rfl (by repeat (first | exact blk_new' (by simp) | refine blk_alloc ?_ _)) rfl rfl rfl .nil)) rfl ?_
 refine ⟨_, _, _, _, _, _, rfl, ?_, ?_, ?_, ?_⟩
 ·exact C_46 (xs := trialLots) (by repeat (first | exact blk_new' (by simp) | refine blk_alloc ?_ _)) (by decide)
 ·exact C_ints (xs := trialSamples) (by repeat (first | exact blk_new' (by simp) | refine blk_alloc ?_ _)) (by decide)
 ·refine C_blk (xs := trialLabs) (t := 75) (by repeat (first | exact blk_new' (by simp) | refine blk_alloc ?_ _)) (by decide) (fun j => [.int .i64 (trialLabs.getD j z75).f0, .slice (some ⟨w.heap.size + 3 + j, 0, none⟩) 3 3]) (fun j p hj => ?_)
  match j, hj with
  | 0, hj =>
   cases hj
   exact ⟨rfl, k75_mk _ _ (by decide) (C_ints (xs := [120, 122, 230]) (by repeat (first | exact blk_new' (by simp) | refine blk_alloc ?_ _)) (by decide)), fun i u hu => by match i, hu with | 0, hu => exact hu | 1, hu => exact hu⟩
  | 1, hj =>
   cases hj
   exact ⟨rfl, k75_mk _ _ (by decide) (C_ints (xs := [124, 121, 234]) (by repeat (first | exact blk_new' (by simp) | refine blk_alloc ?_ _)) (by decide)), fun i u hu => by match i, hu with | 0, hu => exact hu | 1, hu => exact hu⟩
  | 2, hj =>
   cases hj
   exact ⟨rfl, k75_mk _ _ (by decide) (C_ints (xs := [131, 133, 240]) (by repeat (first | exact blk_new' (by simp) | refine blk_alloc ?_ _)) (by decide)), fun i u hu => by match i, hu with | 0, hu => exact hu | 1, hu => exact hu⟩
  | 3, hj =>
   cases hj
   exact ⟨rfl, k75_mk _ _ (by decide) (C_ints (xs := [-1, 118, 229]) (by repeat (first | exact blk_new' (by simp) | refine blk_alloc ?_ _)) (by decide)), fun i u hu => by match i, hu with | 0, hu => exact hu | 1, hu => exact hu⟩
 ·repeat (first | exact Below.refl _ _ | refine below_alloc ?_ _)
end Go.Proofs.Ytcpbhklaffgokaa.Q
