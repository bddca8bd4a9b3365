import Derived.Test.YtcpbhklaffgokaaC4x14
namespace Go.Proofs.Ytcpbhklaffgokaa.Q
open Go.RowKit Go.Proofs.YtcpbhklaffgokaaW.PrintWords Go.Proofs.YtcpbhklaffgokaaW.PrintLast Go.Proofs.YtcpbhklaffgokaaW.PrintMore
attribute [local go_sem] max2_int min2_int max_two min_two max_three min_three max_four min_four
set_option linter.unusedVariables false
set_option linter.unusedSimpArgs false
mutual
def tensilelaw08_RoundConvicts.j0 : Nat → Bool → List (S44) → List Int → Int → List (S62) → Option (Bool)
 | 0, _, _, _, _, _ => none
 | k + 1, x24, x817000, x817001, x817002, x817003 => if x24 = true then ((tensilelaw08_wakes.f).bind fun t819 => (some t819)) else ((tensilelaw08_Round.f k x817000 x817001 x817002 x817003).bind fun bt820 => ((round_Convicted.f bt820.1 bt820.2.1 bt820.2.2.1 bt820.2.2.2).bind fun bt830 => ((tensilelaw08_fault.f k x817000 x817001 x817002 x817003).bind fun t834 => (if t834 = 0 then ((tensileref08_Fewest.f k x817000 x817001 x817002 x817003).bind fun t835 => (tensilelaw08_RoundConvicts.l0 k bt830.1 bt830.2 t834 ([] : List Int) t835 0 x817000 x817001 x817002 x817003)) else (tensilelaw08_RoundConvicts.j3 k bt830.1 bt830.2 t834 ([] : List Int))))))
def tensilelaw08_RoundConvicts.j3 : Nat → List Int → Int → Int → List Int → Option (Bool)
 | 0, _, _, _, _ => none
 | k + 1, x3, x4, x5, x6 => if x5 = 0 then (if x4 = 0 then ((tensilelaw08_ints.f k x3 x6).bind fun t843 => (if t843 = true then ((tensilelaw08_wakes.f).bind fun t844 => (some t844)) else (some false))) else (some false)) else (if x4 = x5 then (if (x3.length : Int) = 0 then ((tensilelaw08_wakes.f).bind fun t845 => (some t845)) else (some false)) else (some false))
def tensilelaw08_RoundConvicts.l0 : Nat → List Int → Int → Int → List Int → List (List Int) → Int → List (S44) → List Int → Int → List (S62) → Option (Bool)
 | 0, _, _, _, _, _, _, _, _, _, _ => none
 | k + 1, x3, x4, x5, x6, x7, x8, x817000, x817001, x817002, x817003 => if x8 < (x817003.length : Int) then (tensilelaw08_RoundConvicts.l1 k x3 x4 x5 x6 x7 x8 true 0 x817000 x817001 x817002 x817003) else (if (x6.length : Int) = 0 then (tensilelaw08_RoundConvicts.j3 k x3 x4 7 x6) else (tensilelaw08_RoundConvicts.j3 k x3 x4 x5 x6))
def tensilelaw08_RoundConvicts.l1 : Nat → List Int → Int → Int → List Int → List (List Int) → Int → Bool → Int → List (S44) → List Int → Int → List (S62) → Option (Bool)
 | 0, _, _, _, _, _, _, _, _, _, _, _, _ => none
 | k + 1, x3, x4, x5, x6, x7, x8, x9, x10, x817000, x817001, x817002, x817003 => if x10 < (x7.length : Int) then (if x9 = true then (if 0 ≤ x10 then ((tensileref08_Has.f k (rd_L2 x7 x10) x8).bind fun t839 => (tensilelaw08_RoundConvicts.l1 k x3 x4 x5 x6 x7 x8 t839 (wrap64 (x10 + 1)) x817000 x817001 x817002 x817003)) else (none)) else (tensilelaw08_RoundConvicts.l1 k x3 x4 x5 x6 x7 x8 false (wrap64 (x10 + 1)) x817000 x817001 x817002 x817003)) else (if x9 = true then (if x6.length < 17592186044416 then (tensilelaw08_RoundConvicts.l0 k x3 x4 x5 (x6 ++ [x8]) x7 (wrap64 (x8 + 1)) x817000 x817001 x817002 x817003) else (none)) else (tensilelaw08_RoundConvicts.l0 k x3 x4 x5 x6 x7 (wrap64 (x8 + 1)) x817000 x817001 x817002 x817003))
end
def tensilelaw08_RoundConvicts.f (k : Nat) (l0_0 : List (S44)) (l0_1 : List Int) (a0_2 : Int) (l0_3 : List (S62)) : Option (Bool) := (tensilelaw08_Few.f k l0_0 l0_1 a0_2 l0_3).bind fun t817 => (if t817 = true then ((tensileref08_Fault.f k l0_0 l0_1 a0_2 l0_3).bind fun t818 => (if t818 = 0 then (tensilelaw08_RoundConvicts.j0 k (decide ((l0_3.length : Int) > 4)) l0_0 l0_1 a0_2 l0_3) else (tensilelaw08_RoundConvicts.j0 k false l0_0 l0_1 a0_2 l0_3))) else (tensilelaw08_RoundConvicts.j0 k true l0_0 l0_1 a0_2 l0_3))
set_option maxHeartbeats 8000000 in
set_option maxRecDepth 100000 in
theorem tensilelaw08_RoundConvicts.calls (k : Nat) (A0_0 : Option Addr) (c0_0 : Nat) (l0_0 : List (S44)) (A0_1 : Option Addr) (c0_1 : Nat) (l0_1 : List Int) (a0_2 : Int) (A0_3 : Option Addr) (c0_3 : Nat) (l0_3 : List (S62)) (r : Bool) (w : World) (hr0_0 : Kd.C k44 w A0_0 l0_0.length l0_0) (hc0_0 : l0_0.length ≤ c0_0) (hr0_1 : Kd.C (Kd.int .i64) w A0_1 l0_1.length l0_1) (hc0_1 : l0_1.length ≤ c0_1) (hr0_3 : Kd.C k62 w A0_3 l0_3.length l0_3) (hc0_3 : l0_3.length ≤ c0_3) (h : tensilelaw08_RoundConvicts.f k l0_0 l0_1 a0_2 l0_3 = some r) :
  Calls Try.prog 13 #[.agg #[.slice A0_0 l0_0.length c0_0, .slice A0_1 l0_1.length c0_1, .int .i64 a0_2, .slice A0_3 l0_3.length c0_3]] w fun e w' => e = .returned (.bool r) ∧ Below w.heap.size w w' := by
 have hu26 := Try.underlying26
 have HR0_0 := Aside0.mk hr0_0
 have HC0_0 := Aside0.mk hc0_0
 clear hr0_0 hc0_0
 have HR0_1 := Aside0.mk hr0_1
 have HC0_1 := Aside0.mk hc0_1
 clear hr0_1 hc0_1
 have HR0_3 := Aside0.mk hr0_3
 have HC0_3 := Aside0.mk hc0_3
 clear hr0_3 hc0_3
 have HB := Aside0.mk (Below.refl w.heap.size w)
 have H : ((tensilelaw08_Few.f k l0_0 l0_1 a0_2 l0_3).bind fun t817 => (if t817 = true then ((tensileref08_Fault.f k l0_0 l0_1 a0_2 l0_3).bind fun t818 => (if t818 = 0 then (tensilelaw08_RoundConvicts.j0 k (decide ((l0_3.length : Int) > 4)) l0_0 l0_1 a0_2 l0_3) else (tensilelaw08_RoundConvicts.j0 k false l0_0 l0_1 a0_2 l0_3))) else (tensilelaw08_RoundConvicts.j0 k true l0_0 l0_1 a0_2 l0_3))) = some r := h
 clear h
 have HC2 := Aside0.mk H
 clear H
 go_enter Try.func13, Try.ntmps13
 go_upto_region 1 with (first | ((with_reducible refine gate_dst (N := 1) rfl ?_); (try (refine gate_guard (by rfl) ?_; dsimp only)); refine box_event ?hg (N := 1) ?hd (cs := #[.slice A0_0 l0_0.length c0_0, .slice A0_1 l0_1.length c0_1, .int .i64 a0_2, .slice A0_3 l0_3.length c0_3]) (t := 26) ?hr ?_; (case hd => rfl); (case hg => rfl); (case hr => first | (go_simp; done) | (go_simp; rfl)); intro gb816 hg w3 hbox hb; have n0_ := Aside0.mk (below_step (by repeat (first | (with_reducible first | exact HB.out | apply below_alloc | apply pw_below_drewN | apply below_drew1) | exact HB.out)) hb); have n1_ := Aside0.mk (hbox); have n2_ := Aside0.mk ((by rw [hg]; exact (below_size (by repeat (first | (with_reducible first | exact HB.out | apply below_alloc | apply pw_below_drewN | apply below_drew1) | exact HB.out))) : w.heap.size ≤ gb816)); have n3_ := Aside0.mk ((by rw [hg]; exact (below_size (by repeat (first | (with_reducible first | exact HB.out | apply below_alloc | apply pw_below_drewN | apply below_drew1) | exact HB.out))) : w.heap.size ≤ gb816)); clear HB; have HB := n0_; have BK816 := n1_; have GW816 := n2_; have GE816 := n3_; clear n0_ n1_ n2_ n3_; clear hb hbox hg))
 (try simp only [Act.put, List.setIfInBounds_toArray, List.set_cons_zero, List.set_cons_succ])
 go_cut [24] (fun v24 wc => ∃ (kq : Nat) (x24_1 : Bool), v24 = .bool x24_1 ∧ Aside0 (tensilelaw08_RoundConvicts.j0 kq x24_1 l0_0 l0_1 a0_2 l0_3 = some r) ∧ Aside0 (kq ≤ k) ∧ Aside0 (wc.heap[gb816]? = some (.cells #[(.slice A0_0 l0_0.length c0_0), (.slice A0_1 l0_1.length c0_1), .int .i64 a0_2, (.slice A0_3 l0_3.length c0_3)] 26 (0, 0))) ∧ Aside0 (Below w.heap.size w wc))
 case first =>
  have H := HC2.out
  clear HC2
  replace H := Option.bind_eq_some_iff.mp H
  obtain ⟨t817, A40, H⟩ := H
  replace H : (if t817 = true then ((tensileref08_Fault.f k l0_0 l0_1 a0_2 l0_3).bind fun t818 => (if t818 = 0 then (tensilelaw08_RoundConvicts.j0 k (decide ((l0_3.length : Int) > 4)) l0_0 l0_1 a0_2 l0_3) else (tensilelaw08_RoundConvicts.j0 k false l0_0 l0_1 a0_2 l0_3))) else (tensilelaw08_RoundConvicts.j0 k true l0_0 l0_1 a0_2 l0_3)) = some r := H
  have A4 := Aside0.mk A40
  clear A40
  by_cases c5 : t817 = true
  ·subst c5
   have H1 : ((tensileref08_Fault.f k l0_0 l0_1 a0_2 l0_3).bind fun t818 => (if t818 = 0 then (tensilelaw08_RoundConvicts.j0 k (decide ((l0_3.length : Int) > 4)) l0_0 l0_1 a0_2 l0_3) else (tensilelaw08_RoundConvicts.j0 k false l0_0 l0_1 a0_2 l0_3))) = some r := by rw [if_pos rfl] at H; exact H
   clear H
   have H := H1
   clear H1
   replace H := Option.bind_eq_some_iff.mp H
   obtain ⟨t818, A60, H⟩ := H
   replace H : (if t818 = 0 then (tensilelaw08_RoundConvicts.j0 k (decide ((l0_3.length : Int) > 4)) l0_0 l0_1 a0_2 l0_3) else (tensilelaw08_RoundConvicts.j0 k false l0_0 l0_1 a0_2 l0_3)) = some r := H
   have A6 := Aside0.mk A60
   clear A60
   by_cases c7 : t818 = 0
   ·rw [if_pos c7] at H
    have c7b0 : (t818 == 0) = true := beq_iff_eq.mpr c7
    have c7b1 : (t818 != 0) = false := bne_eq_false_iff_eq.mpr c7
    clear c7
    (first | rw [c7b0] | (simp only [i64_w, i32_w]; rw [c7b0]) | skip)
    have H' := Aside0.mk H
    clear H
    have hcz8_0 : w3.cell? ⟨gb816, 0, none⟩ = some (.slice A0_0 l0_0.length c0_0) := (blk_cell BK816.out 0).trans rfl
    have hcz8_1 : w3.cell? ⟨gb816, 1, none⟩ = some (.slice A0_1 l0_1.length c0_1) := (blk_cell BK816.out 1).trans rfl
    have hcz8_2 : w3.cell? ⟨gb816, 2, none⟩ = some (.int .i64 a0_2) := (blk_cell BK816.out 2).trans rfl
    have hcz8_3 : w3.cell? ⟨gb816, 3, none⟩ = some (.slice A0_3 l0_3.length c0_3) := (blk_cell BK816.out 3).trans rfl
    have hfz8_0 := blk_frozen BK816.out 0
    have hfz8_1 := blk_frozen BK816.out 1
    have hfz8_2 := blk_frozen BK816.out 2
    have hfz8_3 := blk_frozen BK816.out 3
    go_wp2_with (first | ((with_reducible refine gate_callee (f := 17) rfl ?_); refine goesL_ (some 12) rfl rfl Try.func17 (by kernel_rfl) rfl #[.agg #[.slice A0_0 l0_0.length c0_0, .slice A0_1 l0_1.length c0_1, .int .i64 a0_2, .slice A0_3 l0_3.length c0_3]] rfl (by (try simp only [List.map_toArray, List.map_cons, List.map_nil]); first | done | rfl | (simp only [List.length_drop, List.length_take]; rfl)) ?_; (with_reducible refine (tensilelaw08_Few.calls k _ _ l0_0 _ _ l0_1 a0_2 _ _ l0_3 true _ ?side1 ?side2 ?side3 ?side4 ?side5 ?side6 A4.out).mono ?_); (case side1 => repeat (first | exact (Kd.C_below HR0_0.out HB.out) | (with_reducible refine Kd.C_alloc ?_ _) | (with_reducible refine Kd.C_drewN ?_ _) | (with_reducible refine Kd.C_drew ?_))); (case side2 => exact HC0_0.out); (case side3 => repeat (first | exact (Kd.C_below HR0_1.out HB.out) | (with_reducible refine Kd.C_alloc ?_ _) | (with_reducible refine Kd.C_drewN ?_ _) | (with_reducible refine Kd.C_drew ?_))); (case side4 => exact HC0_1.out); (case side5 => repeat (first | exact (Kd.C_below HR0_3.out HB.out) | (with_reducible refine Kd.C_alloc ?_ _) | (with_reducible refine Kd.C_drewN ?_ _) | (with_reducible refine Kd.C_drew ?_))); (case side6 => exact HC0_3.out); rintro e w9 ⟨rfl, hb⟩; refine ⟨_, rfl, ?_⟩; have n0_ := Aside0.mk (blk_below (g := gb816) (o := .cells #[.slice A0_0 l0_0.length c0_0, .slice A0_1 l0_1.length c0_1, .int .i64 a0_2, .slice A0_3 l0_3.length c0_3] 26 (0, 0)) (by (with_reducible repeat (first | refine blk_drewN ?_ _ | refine blk_drew ?_ | refine blk_alloc ?_ _)); exact BK816.out) hb); have n1_ := Aside0.mk (below_step (by repeat (first | (with_reducible first | exact HB.out | apply below_alloc | apply pw_below_drewN | apply below_drew1 | refine below_set ?_ GE816.out) | exact HB.out)) hb); clear BK816; clear HB; have BK816 := n0_; have HB := n1_; clear n0_ n1_; (try clear hb); (try clear hb2); (try clear hk); (try clear hi); have hcz10_0 : w9.cell? ⟨gb816, 0, none⟩ = some (.slice A0_0 l0_0.length c0_0) := (blk_cell BK816.out 0).trans rfl; have hcz10_1 : w9.cell? ⟨gb816, 1, none⟩ = some (.slice A0_1 l0_1.length c0_1) := (blk_cell BK816.out 1).trans rfl; have hcz10_2 : w9.cell? ⟨gb816, 2, none⟩ = some (.int .i64 a0_2) := (blk_cell BK816.out 2).trans rfl; have hcz10_3 : w9.cell? ⟨gb816, 3, none⟩ = some (.slice A0_3 l0_3.length c0_3) := (blk_cell BK816.out 3).trans rfl; have hfz10_0 := blk_frozen BK816.out 0; have hfz10_1 := blk_frozen BK816.out 1; have hfz10_2 := blk_frozen BK816.out 2; have hfz10_3 := blk_frozen BK816.out 3) | (go_at_call 28; (with_reducible refine (tensileref08_Fault.calls k _ _ l0_0 _ _ l0_1 a0_2 _ _ l0_3 t818 _ ?side1 ?side2 ?side3 ?side4 ?side5 ?side6 A6.out).mono ?_); (case side1 => repeat (first | exact (Kd.C_below HR0_0.out HB.out) | (with_reducible refine Kd.C_alloc ?_ _) | (with_reducible refine Kd.C_drewN ?_ _) | (with_reducible refine Kd.C_drew ?_))); (case side2 => exact HC0_0.out); (case side3 => repeat (first | exact (Kd.C_below HR0_1.out HB.out) | (with_reducible refine Kd.C_alloc ?_ _) | (with_reducible refine Kd.C_drewN ?_ _) | (with_reducible refine Kd.C_drew ?_))); (case side4 => exact HC0_1.out); (case side5 => repeat (first | exact (Kd.C_below HR0_3.out HB.out) | (with_reducible refine Kd.C_alloc ?_ _) | (with_reducible refine Kd.C_drewN ?_ _) | (with_reducible refine Kd.C_drew ?_))); (case side6 => exact HC0_3.out); rintro e w11 ⟨rfl, hb⟩; have n0_ := Aside0.mk (blk_below (g := gb816) (o := .cells #[.slice A0_0 l0_0.length c0_0, .slice A0_1 l0_1.length c0_1, .int .i64 a0_2, .slice A0_3 l0_3.length c0_3] 26 (0, 0)) (by (with_reducible repeat (first | refine blk_drewN ?_ _ | refine blk_drew ?_ | refine blk_alloc ?_ _)); exact BK816.out) hb); have n1_ := Aside0.mk (below_step (by repeat (first | (with_reducible first | exact HB.out | apply below_alloc | apply pw_below_drewN | apply below_drew1 | refine below_set ?_ GE816.out) | exact HB.out)) hb); clear BK816; clear HB; have BK816 := n0_; have HB := n1_; clear n0_ n1_; (try clear hb); (try clear hb2); (try clear hk); (try clear hi); have hcz12_0 : w11.cell? ⟨gb816, 0, none⟩ = some (.slice A0_0 l0_0.length c0_0) := (blk_cell BK816.out 0).trans rfl; have hcz12_1 : w11.cell? ⟨gb816, 1, none⟩ = some (.slice A0_1 l0_1.length c0_1) := (blk_cell BK816.out 1).trans rfl; have hcz12_2 : w11.cell? ⟨gb816, 2, none⟩ = some (.int .i64 a0_2) := (blk_cell BK816.out 2).trans rfl; have hcz12_3 : w11.cell? ⟨gb816, 3, none⟩ = some (.slice A0_3 l0_3.length c0_3) := (blk_cell BK816.out 3).trans rfl; have hfz12_0 := blk_frozen BK816.out 0; have hfz12_1 := blk_frozen BK816.out 1; have hfz12_2 := blk_frozen BK816.out 2; have hfz12_3 := blk_frozen BK816.out 3))
    go_meet
    case rel => exact ⟨_, (decide ((l0_3.length : Int) > 4)), (by first | rfl | (simp; done) | (simp [*]; done)), H', ⟨by first | omega | exact Nat.le_refl _⟩, ⟨by (with_reducible repeat (first | refine blk_drewN ?_ _ | refine blk_drew ?_ | refine blk_alloc ?_ _)); exact BK816.out⟩, ⟨by repeat (first | (with_reducible first | exact HB.out | apply below_alloc | apply pw_below_drewN | apply below_drew1 | refine below_set ?_ GE816.out) | exact HB.out)⟩⟩
   ·rw [if_neg c7] at H
    have c7b0 : (t818 == 0) = false := beq_eq_false_iff_ne.mpr c7
    have c7b1 : (t818 != 0) = true := bne_iff_ne.mpr c7
    (first | rw [c7b0] | (simp only [i64_w, i32_w]; rw [c7b0]) | skip)
    have H' := Aside0.mk H
    clear H
    have hcz13_0 : w3.cell? ⟨gb816, 0, none⟩ = some (.slice A0_0 l0_0.length c0_0) := (blk_cell BK816.out 0).trans rfl
    have hcz13_1 : w3.cell? ⟨gb816, 1, none⟩ = some (.slice A0_1 l0_1.length c0_1) := (blk_cell BK816.out 1).trans rfl
    have hcz13_2 : w3.cell? ⟨gb816, 2, none⟩ = some (.int .i64 a0_2) := (blk_cell BK816.out 2).trans rfl
    have hcz13_3 : w3.cell? ⟨gb816, 3, none⟩ = some (.slice A0_3 l0_3.length c0_3) := (blk_cell BK816.out 3).trans rfl
    have hfz13_0 := blk_frozen BK816.out 0
    have hfz13_1 := blk_frozen BK816.out 1
    have hfz13_2 := blk_frozen BK816.out 2
    have hfz13_3 := blk_frozen BK816.out 3
    go_wp2_with (first | ((with_reducible refine gate_callee (f := 17) rfl ?_); refine goesL_ (some 12) rfl rfl Try.func17 (by kernel_rfl) rfl #[.agg #[.slice A0_0 l0_0.length c0_0, .slice A0_1 l0_1.length c0_1, .int .i64 a0_2, .slice A0_3 l0_3.length c0_3]] rfl (by (try simp only [List.map_toArray, List.map_cons, List.map_nil]); first | done | rfl | (simp only [List.length_drop, List.length_take]; rfl)) ?_; (with_reducible refine (tensilelaw08_Few.calls k _ _ l0_0 _ _ l0_1 a0_2 _ _ l0_3 true _ ?side1 ?side2 ?side3 ?side4 ?side5 ?side6 A4.out).mono ?_); (case side1 => repeat (first | exact (Kd.C_below HR0_0.out HB.out) | (with_reducible refine Kd.C_alloc ?_ _) | (with_reducible refine Kd.C_drewN ?_ _) | (with_reducible refine Kd.C_drew ?_))); (case side2 => exact HC0_0.out); (case side3 => repeat (first | exact (Kd.C_below HR0_1.out HB.out) | (with_reducible refine Kd.C_alloc ?_ _) | (with_reducible refine Kd.C_drewN ?_ _) | (with_reducible refine Kd.C_drew ?_))); (case side4 => exact HC0_1.out); (case side5 => repeat (first | exact (Kd.C_below HR0_3.out HB.out) | (with_reducible refine Kd.C_alloc ?_ _) | (with_reducible refine Kd.C_drewN ?_ _) | (with_reducible refine Kd.C_drew ?_))); (case side6 => exact HC0_3.out); rintro e w14 ⟨rfl, hb⟩; refine ⟨_, rfl, ?_⟩; have n0_ := Aside0.mk (blk_below (g := gb816) (o := .cells #[.slice A0_0 l0_0.length c0_0, .slice A0_1 l0_1.length c0_1, .int .i64 a0_2, .slice A0_3 l0_3.length c0_3] 26 (0, 0)) (by (with_reducible repeat (first | refine blk_drewN ?_ _ | refine blk_drew ?_ | refine blk_alloc ?_ _)); exact BK816.out) hb); have n1_ := Aside0.mk (below_step (by repeat (first | (with_reducible first | exact HB.out | apply below_alloc | apply pw_below_drewN | apply below_drew1 | refine below_set ?_ GE816.out) | exact HB.out)) hb); clear BK816; clear HB; have BK816 := n0_; have HB := n1_; clear n0_ n1_; (try clear hb); (try clear hb2); (try clear hk); (try clear hi); have hcz15_0 : w14.cell? ⟨gb816, 0, none⟩ = some (.slice A0_0 l0_0.length c0_0) := (blk_cell BK816.out 0).trans rfl; have hcz15_1 : w14.cell? ⟨gb816, 1, none⟩ = some (.slice A0_1 l0_1.length c0_1) := (blk_cell BK816.out 1).trans rfl; have hcz15_2 : w14.cell? ⟨gb816, 2, none⟩ = some (.int .i64 a0_2) := (blk_cell BK816.out 2).trans rfl; have hcz15_3 : w14.cell? ⟨gb816, 3, none⟩ = some (.slice A0_3 l0_3.length c0_3) := (blk_cell BK816.out 3).trans rfl; have hfz15_0 := blk_frozen BK816.out 0; have hfz15_1 := blk_frozen BK816.out 1; have hfz15_2 := blk_frozen BK816.out 2; have hfz15_3 := blk_frozen BK816.out 3) | (go_at_call 28; (with_reducible refine (tensileref08_Fault.calls k _ _ l0_0 _ _ l0_1 a0_2 _ _ l0_3 t818 _ ?side1 ?side2 ?side3 ?side4 ?side5 ?side6 A6.out).mono ?_); (case side1 => repeat (first | exact (Kd.C_below HR0_0.out HB.out) | (with_reducible refine Kd.C_alloc ?_ _) | (with_reducible refine Kd.C_drewN ?_ _) | (with_reducible refine Kd.C_drew ?_))); (case side2 => exact HC0_0.out); (case side3 => repeat (first | exact (Kd.C_below HR0_1.out HB.out) | (with_reducible refine Kd.C_alloc ?_ _) | (with_reducible refine Kd.C_drewN ?_ _) | (with_reducible refine Kd.C_drew ?_))); (case side4 => exact HC0_1.out); (case side5 => repeat (first | exact (Kd.C_below HR0_3.out HB.out) | (with_reducible refine Kd.C_alloc ?_ _) | (with_reducible refine Kd.C_drewN ?_ _) | (with_reducible refine Kd.C_drew ?_))); (case side6 => exact HC0_3.out); rintro e w16 ⟨rfl, hb⟩; have n0_ := Aside0.mk (blk_below (g := gb816) (o := .cells #[.slice A0_0 l0_0.length c0_0, .slice A0_1 l0_1.length c0_1, .int .i64 a0_2, .slice A0_3 l0_3.length c0_3] 26 (0, 0)) (by (with_reducible repeat (first | refine blk_drewN ?_ _ | refine blk_drew ?_ | refine blk_alloc ?_ _)); exact BK816.out) hb); have n1_ := Aside0.mk (below_step (by repeat (first | (with_reducible first | exact HB.out | apply below_alloc | apply pw_below_drewN | apply below_drew1 | refine below_set ?_ GE816.out) | exact HB.out)) hb); clear BK816; clear HB; have BK816 := n0_; have HB := n1_; clear n0_ n1_; (try clear hb); (try clear hb2); (try clear hk); (try clear hi)))
    go_meet
    case rel => exact ⟨_, (false), (by first | rfl | (simp; done) | (simp [*]; done)), H', ⟨by first | omega | exact Nat.le_refl _⟩, ⟨by (with_reducible repeat (first | refine blk_drewN ?_ _ | refine blk_drew ?_ | refine blk_alloc ?_ _)); exact BK816.out⟩, ⟨by repeat (first | (with_reducible first | exact HB.out | apply below_alloc | apply pw_below_drewN | apply below_drew1 | refine below_set ?_ GE816.out) | exact HB.out)⟩⟩
  ·replace c5 := Bool.eq_false_iff.mpr c5
   subst c5
   have H1 : (tensilelaw08_RoundConvicts.j0 k true l0_0 l0_1 a0_2 l0_3) = some r := by rw [if_neg (show ¬ (false = true) by decide)] at H; exact H
   clear H
   have H := H1
   clear H1
   have H' := Aside0.mk H
   clear H
   have hcz17_0 : w3.cell? ⟨gb816, 0, none⟩ = some (.slice A0_0 l0_0.length c0_0) := (blk_cell BK816.out 0).trans rfl
   have hcz17_1 : w3.cell? ⟨gb816, 1, none⟩ = some (.slice A0_1 l0_1.length c0_1) := (blk_cell BK816.out 1).trans rfl
   have hcz17_2 : w3.cell? ⟨gb816, 2, none⟩ = some (.int .i64 a0_2) := (blk_cell BK816.out 2).trans rfl
   have hcz17_3 : w3.cell? ⟨gb816, 3, none⟩ = some (.slice A0_3 l0_3.length c0_3) := (blk_cell BK816.out 3).trans rfl
   have hfz17_0 := blk_frozen BK816.out 0
   have hfz17_1 := blk_frozen BK816.out 1
   have hfz17_2 := blk_frozen BK816.out 2
   have hfz17_3 := blk_frozen BK816.out 3
   go_wp2_with (first | ((with_reducible refine gate_callee (f := 17) rfl ?_); refine goesL_ (some 12) rfl rfl Try.func17 (by kernel_rfl) rfl #[.agg #[.slice A0_0 l0_0.length c0_0, .slice A0_1 l0_1.length c0_1, .int .i64 a0_2, .slice A0_3 l0_3.length c0_3]] rfl (by (try simp only [List.map_toArray, List.map_cons, List.map_nil]); first | done | rfl | (simp only [List.length_drop, List.length_take]; rfl)) ?_; (with_reducible refine (tensilelaw08_Few.calls k _ _ l0_0 _ _ l0_1 a0_2 _ _ l0_3 false _ ?side1 ?side2 ?side3 ?side4 ?side5 ?side6 A4.out).mono ?_); (case side1 => repeat (first | exact (Kd.C_below HR0_0.out HB.out) | (with_reducible refine Kd.C_alloc ?_ _) | (with_reducible refine Kd.C_drewN ?_ _) | (with_reducible refine Kd.C_drew ?_))); (case side2 => exact HC0_0.out); (case side3 => repeat (first | exact (Kd.C_below HR0_1.out HB.out) | (with_reducible refine Kd.C_alloc ?_ _) | (with_reducible refine Kd.C_drewN ?_ _) | (with_reducible refine Kd.C_drew ?_))); (case side4 => exact HC0_1.out); (case side5 => repeat (first | exact (Kd.C_below HR0_3.out HB.out) | (with_reducible refine Kd.C_alloc ?_ _) | (with_reducible refine Kd.C_drewN ?_ _) | (with_reducible refine Kd.C_drew ?_))); (case side6 => exact HC0_3.out); rintro e w18 ⟨rfl, hb⟩; refine ⟨_, rfl, ?_⟩; have n0_ := Aside0.mk (blk_below (g := gb816) (o := .cells #[.slice A0_0 l0_0.length c0_0, .slice A0_1 l0_1.length c0_1, .int .i64 a0_2, .slice A0_3 l0_3.length c0_3] 26 (0, 0)) (by (with_reducible repeat (first | refine blk_drewN ?_ _ | refine blk_drew ?_ | refine blk_alloc ?_ _)); exact BK816.out) hb); have n1_ := Aside0.mk (below_step (by repeat (first | (with_reducible first | exact HB.out | apply below_alloc | apply pw_below_drewN | apply below_drew1 | refine below_set ?_ GE816.out) | exact HB.out)) hb); clear BK816; clear HB; have BK816 := n0_; have HB := n1_; clear n0_ n1_; (try clear hb); (try clear hb2); (try clear hk); (try clear hi)))
   go_meet
   case rel => exact ⟨_, (true), (by first | rfl | (simp; done) | (simp [*]; done)), H', ⟨by first | omega | exact Nat.le_refl _⟩, ⟨by (with_reducible repeat (first | refine blk_drewN ?_ _ | refine blk_drew ?_ | refine blk_alloc ?_ _)); exact BK816.out⟩, ⟨by repeat (first | (with_reducible first | exact HB.out | apply below_alloc | apply pw_below_drewN | apply below_drew1 | refine below_set ?_ GE816.out) | exact HB.out)⟩⟩
 case rest =>
  clear HC2
  try clear c1
  try clear p2
  try clear c5
  try clear c7
  try clear c7b0
  try clear c7b1
  try clear c13
  try clear c17
  try clear hcz10_0
  try clear hcz10_1
  try clear hcz10_2
  try clear hcz10_3
  try clear hcz12_0
  try clear hcz12_1
  try clear hcz12_2
  try clear hcz12_3
  try clear hcz13_0
  try clear hcz13_1
  try clear hcz13_2
  try clear hcz13_3
  try clear hcz15_0
  try clear hcz15_1
  try clear hcz15_2
  try clear hcz15_3
  try clear hcz17_0
  try clear hcz17_1
  try clear hcz17_2
  try clear hcz17_3
  try clear hcz8_0
  try clear hcz8_1
  try clear hcz8_2
  try clear hcz8_3
  try clear hfz10_0
  try clear hfz10_1
  try clear hfz10_2
  try clear hfz10_3
  try clear hfz12_0
  try clear hfz12_1
  try clear hfz12_2
  try clear hfz12_3
  try clear hfz13_0
  try clear hfz13_1
  try clear hfz13_2
  try clear hfz13_3
  try clear hfz15_0
  try clear hfz15_1
  try clear hfz15_2
  try clear hfz15_3
  try clear hfz17_0
  try clear hfz17_1
  try clear hfz17_2
  try clear hfz17_3
  try clear hfz8_0
  try clear hfz8_1
  try clear hfz8_2
  try clear hfz8_3
  obtain ⟨kq, x24_1, rfl, HA, HJ1, BK816, HB⟩ := hcut
  cases kq with
  | zero => exact absurd HA.out (by simp [tensilelaw08_RoundConvicts.j0])
  | succ kj1 =>
   have H := HA.out
   clear HA
   simp only [tensilelaw08_RoundConvicts.j0] at H
   by_cases c19 : x24_1 = true
   ·subst c19
    have H1 : ((tensilelaw08_wakes.f).bind fun t819 => (some t819)) = some r := by rw [if_pos rfl] at H; exact H
    clear H
    have H := H1
    clear H1
    replace H := Option.bind_eq_some_iff.mp H
    obtain ⟨t819, A200, H⟩ := H
    replace H : (some t819) = some r := H
    have A20 := Aside0.mk A200
    clear A200
    obtain rfl := Option.some.inj H
    go_wp2_with (first | ((with_reducible refine gate_callee (f := 18) rfl ?_); refine goesL_ (some 25) rfl rfl Try.func18 (by kernel_rfl) rfl #[] rfl (by (try simp only [List.map_toArray, List.map_cons, List.map_nil]); first | done | rfl | (simp only [List.length_drop, List.length_take]; rfl)) ?_; (with_reducible refine (tensilelaw08_wakes.calls  t819 _ A20.out).mono ?_); rintro e w21 ⟨rfl, hb⟩; refine ⟨_, rfl, ?_⟩; have n0_ := Aside0.mk (blk_below (g := gb816) (o := .cells #[.slice A0_0 l0_0.length c0_0, .slice A0_1 l0_1.length c0_1, .int .i64 a0_2, .slice A0_3 l0_3.length c0_3] 26 (0, 0)) (by (with_reducible repeat (first | refine blk_drewN ?_ _ | refine blk_drew ?_ | refine blk_alloc ?_ _)); exact BK816.out) hb); have n1_ := Aside0.mk (below_step (by repeat (first | (with_reducible first | exact HB.out | apply below_alloc | apply pw_below_drewN | apply below_drew1 | refine below_set ?_ GE816.out) | exact HB.out)) hb); clear BK816; clear HB; have BK816 := n0_; have HB := n1_; clear n0_ n1_; (try clear hb); (try clear hb2); (try clear hk); (try clear hi)))
    go_ret
    exact ⟨by first | rfl | (simp [errW_none, errW_some] <;> rfl) | (simp [*, errW_none, errW_some] <;> rfl), by repeat (first | (with_reducible first | exact HB.out | apply below_alloc | apply pw_below_drewN | apply below_drew1 | refine below_set ?_ GE816.out) | exact HB.out)⟩
   ·replace c19 := Bool.eq_false_iff.mpr c19
    subst c19
    have H1 : ((tensilelaw08_Round.f kj1 l0_0 l0_1 a0_2 l0_3).bind fun bt820 => ((round_Convicted.f bt820.1 bt820.2.1 bt820.2.2.1 bt820.2.2.2).bind fun bt830 => ((tensilelaw08_fault.f kj1 l0_0 l0_1 a0_2 l0_3).bind fun t834 => (if t834 = 0 then ((tensileref08_Fewest.f kj1 l0_0 l0_1 a0_2 l0_3).bind fun t835 => (tensilelaw08_RoundConvicts.l0 kj1 bt830.1 bt830.2 t834 ([] : List Int) t835 0 l0_0 l0_1 a0_2 l0_3)) else (tensilelaw08_RoundConvicts.j3 kj1 bt830.1 bt830.2 t834 ([] : List Int)))))) = some r := by rw [if_neg (show ¬ (false = true) by decide)] at H; exact H
    clear H
    have H := H1
    clear H1
    replace H := Option.bind_eq_some_iff.mp H
    obtain ⟨⟨t820, t823, t826, t827⟩, A220, H⟩ := H
    replace H : ((round_Convicted.f t820 t823 t826 t827).bind fun bt830 => ((tensilelaw08_fault.f kj1 l0_0 l0_1 a0_2 l0_3).bind fun t834 => (if t834 = 0 then ((tensileref08_Fewest.f kj1 l0_0 l0_1 a0_2 l0_3).bind fun t835 => (tensilelaw08_RoundConvicts.l0 kj1 bt830.1 bt830.2 t834 ([] : List Int) t835 0 l0_0 l0_1 a0_2 l0_3)) else (tensilelaw08_RoundConvicts.j3 kj1 bt830.1 bt830.2 t834 ([] : List Int))))) = some r := H
    have A22 := Aside0.mk A220
    clear A220
    replace H := Option.bind_eq_some_iff.mp H
    obtain ⟨⟨t830, t833⟩, A230, H⟩ := H
    replace H : ((tensilelaw08_fault.f kj1 l0_0 l0_1 a0_2 l0_3).bind fun t834 => (if t834 = 0 then ((tensileref08_Fewest.f kj1 l0_0 l0_1 a0_2 l0_3).bind fun t835 => (tensilelaw08_RoundConvicts.l0 kj1 t830 t833 t834 ([] : List Int) t835 0 l0_0 l0_1 a0_2 l0_3)) else (tensilelaw08_RoundConvicts.j3 kj1 t830 t833 t834 ([] : List Int)))) = some r := H
    have A23 := Aside0.mk A230
    clear A230
    replace H := Option.bind_eq_some_iff.mp H
    obtain ⟨t834, A240, H⟩ := H
    replace H : (if t834 = 0 then ((tensileref08_Fewest.f kj1 l0_0 l0_1 a0_2 l0_3).bind fun t835 => (tensilelaw08_RoundConvicts.l0 kj1 t830 t833 t834 ([] : List Int) t835 0 l0_0 l0_1 a0_2 l0_3)) else (tensilelaw08_RoundConvicts.j3 kj1 t830 t833 t834 ([] : List Int))) = some r := H
    have A24 := Aside0.mk A240
    clear A240
    have HC25 := Aside0.mk H
    clear H
    have hcz26_0 : wc.cell? ⟨gb816, 0, none⟩ = some (.slice A0_0 l0_0.length c0_0) := (blk_cell BK816.out 0).trans rfl
    have hcz26_1 : wc.cell? ⟨gb816, 1, none⟩ = some (.slice A0_1 l0_1.length c0_1) := (blk_cell BK816.out 1).trans rfl
    have hcz26_2 : wc.cell? ⟨gb816, 2, none⟩ = some (.int .i64 a0_2) := (blk_cell BK816.out 2).trans rfl
    have hcz26_3 : wc.cell? ⟨gb816, 3, none⟩ = some (.slice A0_3 l0_3.length c0_3) := (blk_cell BK816.out 3).trans rfl
    have hfz26_0 := blk_frozen BK816.out 0
    have hfz26_1 := blk_frozen BK816.out 1
    have hfz26_2 := blk_frozen BK816.out 2
    have hfz26_3 := blk_frozen BK816.out 3
    go_upto_if 35 with (first | ((with_reducible refine gate_callee (f := 20) rfl ?_); refine goesL_ (some 28) rfl rfl Try.func20 (by kernel_rfl) rfl #[.agg #[.slice A0_0 l0_0.length c0_0, .slice A0_1 l0_1.length c0_1, .int .i64 a0_2, .slice A0_3 l0_3.length c0_3]] rfl (by (try simp only [List.map_toArray, List.map_cons, List.map_nil]); first | done | rfl | (simp only [List.length_drop, List.length_take]; rfl)) ?_; (with_reducible refine (tensilelaw08_Round.calls kj1 _ _ l0_0 _ _ l0_1 a0_2 _ _ l0_3 t820 t823 t826 t827 _ ?side1 ?side2 ?side3 ?side4 ?side5 ?side6 A22.out).mono ?_); (case side1 => repeat (first | exact (Kd.C_below HR0_0.out HB.out) | (with_reducible refine Kd.C_alloc ?_ _) | (with_reducible refine Kd.C_drewN ?_ _) | (with_reducible refine Kd.C_drew ?_))); (case side2 => exact HC0_0.out); (case side3 => repeat (first | exact (Kd.C_below HR0_1.out HB.out) | (with_reducible refine Kd.C_alloc ?_ _) | (with_reducible refine Kd.C_drewN ?_ _) | (with_reducible refine Kd.C_drew ?_))); (case side4 => exact HC0_1.out); (case side5 => repeat (first | exact (Kd.C_below HR0_3.out HB.out) | (with_reducible refine Kd.C_alloc ?_ _) | (with_reducible refine Kd.C_drewN ?_ _) | (with_reducible refine Kd.C_drew ?_))); (case side6 => exact HC0_3.out); rintro e w27 ⟨v821, v824, v828, rfl, ho0, ho1, ho2, hb⟩; refine ⟨_, rfl, ?_⟩; have n0_ := Aside0.mk (Kd.R_lower ho0 (below_size (by repeat (first | (with_reducible first | exact HB.out | apply below_alloc | apply pw_below_drewN | apply below_drew1 | refine below_set ?_ GE816.out) | exact HB.out)))); have n1_ := Aside0.mk (Kd.R_lower ho1 (below_size (by repeat (first | (with_reducible first | exact HB.out | apply below_alloc | apply pw_below_drewN | apply below_drew1 | refine below_set ?_ GE816.out) | exact HB.out)))); have n2_ := Aside0.mk (Kd.N_lower (Kd.N_mono (ok' := fun k_ => some k_ ≠ (v821 : Value).ownBlock ∧ some k_ ≠ (v824 : Value).ownBlock ∧ k_ ≠ gb816) (Kd.S_N (Kd.S_bound (Kd.S_apart' ho2 (Kd.R_typed ho0) (by decide)))) (fun k_ hk_ => ⟨hk_.1.2, hk_.1.1, (Kd.freshB (g := gb816) (o := .cells #[.slice A0_0 l0_0.length c0_0, .slice A0_1 l0_1.length c0_1, .int .i64 a0_2, .slice A0_3 l0_3.length c0_3] 26 (0, 0)) (by (with_reducible repeat (first | refine blk_drewN ?_ _ | refine blk_drew ?_ | refine blk_alloc ?_ _)); exact BK816.out) k_ hk_.2.1)⟩)) (below_size (by repeat (first | (with_reducible first | exact HB.out | apply below_alloc | apply pw_below_drewN | apply below_drew1 | refine below_set ?_ GE816.out) | exact HB.out)))); have n3_ := Aside0.mk (blk_below (g := gb816) (o := .cells #[.slice A0_0 l0_0.length c0_0, .slice A0_1 l0_1.length c0_1, .int .i64 a0_2, .slice A0_3 l0_3.length c0_3] 26 (0, 0)) (by (with_reducible repeat (first | refine blk_drewN ?_ _ | refine blk_drew ?_ | refine blk_alloc ?_ _)); exact BK816.out) hb); have n4_ := Aside0.mk (below_step (by repeat (first | (with_reducible first | exact HB.out | apply below_alloc | apply pw_below_drewN | apply below_drew1 | refine below_set ?_ GE816.out) | exact HB.out)) hb); clear BK816; clear HB; have HO822 := n0_; have HO825 := n1_; have HO829 := n2_; have BK816 := n3_; have HB := n4_; clear n0_ n1_ n2_ n3_ n4_; (try clear hb); (try clear hb2); (try clear hk); (try clear hi); (try clear ho0); (try clear ho1); (try clear ho2); obtain ⟨Ao28, co28, eo28⟩ := Kd.R_slice HO822.out; subst eo28; obtain ⟨Ao29, co29, eo29⟩ := Kd.R_slice HO825.out; subst eo29; obtain ⟨Ao30, co30, eo30⟩ := Kd.N_slice HO829.out; subst eo30) | ((with_reducible refine gate_callee (f := 38) rfl ?_); refine goesL_ (some 29) rfl rfl Try.func38 (by kernel_rfl) rfl #[.agg #[.slice Ao28 t820.length co28, .slice Ao29 t823.length co29, .int .i64 t826, .slice Ao30 t827.length co30]] rfl (by (try simp only [List.map_toArray, List.map_cons, List.map_nil]); first | done | rfl | (simp only [List.length_drop, List.length_take]; rfl)) ?_; (with_reducible refine (round_Convicted.calls _ _ t820 _ _ t823 t826 _ _ t827 t830 t833 _ ?side1 ?side2 ?side3 ?side4 ?side5 ?side6 A23.out).mono ?_); (case side1 => repeat (first | exact (Kd.R_reads' HO822.out).2.2 | (with_reducible refine Kd.C_alloc ?_ _) | (with_reducible refine Kd.C_drewN ?_ _) | (with_reducible refine Kd.C_drew ?_))); (case side2 => exact (Kd.R_reads' HO822.out).2.1); (case side3 => repeat (first | exact (Kd.R_reads' HO825.out).2.2 | (with_reducible refine Kd.C_alloc ?_ _) | (with_reducible refine Kd.C_drewN ?_ _) | (with_reducible refine Kd.C_drew ?_))); (case side4 => exact (Kd.R_reads' HO825.out).2.1); (case side5 => repeat (first | exact (Kd.N_reads' HO829.out).2.2 | (with_reducible refine Kd.C_alloc ?_ _) | (with_reducible refine Kd.C_drewN ?_ _) | (with_reducible refine Kd.C_drew ?_))); (case side6 => exact (Kd.N_reads' HO829.out).2.1); rintro e w31 ⟨v831, rfl, ho0, hb⟩; refine ⟨_, rfl, ?_⟩; have n0_ := Aside0.mk (Kd.R_below (by (with_reducible repeat (first | apply Kd.R_alloc | apply Kd.R_drewN | apply Kd.R_drew)); exact HO822.out) hb); have n1_ := Aside0.mk (Kd.R_elder' (by (with_reducible repeat (first | apply Kd.R_alloc | apply Kd.R_drewN | apply Kd.R_drew)); exact HO825.out) (Kd.R_base ho0) hb); have n2_ := Aside0.mk (Kd.N_elder' (by (with_reducible repeat (first | apply Kd.N_alloc | apply Kd.N_drewN | apply Kd.N_drew)); exact HO829.out) (Kd.R_base ho0) hb); have n3_ := Aside0.mk (Kd.R_lower (Kd.R_new' ho0 (Kd.R_lt (by (with_reducible repeat (first | apply Kd.R_alloc | apply Kd.R_drewN | apply Kd.R_drew)); exact HO825.out))) (below_size (by repeat (first | (with_reducible first | exact HB.out | apply below_alloc | apply pw_below_drewN | apply below_drew1 | refine below_set ?_ GE816.out) | exact HB.out)))); have n4_ := Aside0.mk (blk_below (g := gb816) (o := .cells #[.slice A0_0 l0_0.length c0_0, .slice A0_1 l0_1.length c0_1, .int .i64 a0_2, .slice A0_3 l0_3.length c0_3] 26 (0, 0)) (by (with_reducible repeat (first | refine blk_drewN ?_ _ | refine blk_drew ?_ | refine blk_alloc ?_ _)); exact BK816.out) hb); have n5_ := Aside0.mk (below_step (by repeat (first | (with_reducible first | exact HB.out | apply below_alloc | apply pw_below_drewN | apply below_drew1 | refine below_set ?_ GE816.out) | exact HB.out)) hb); clear HO822; clear HO825; clear HO829; clear BK816; clear HB; have HO822 := n0_; have HO825 := n1_; have HO829 := n2_; have HO832 := n3_; have BK816 := n4_; have HB := n5_; clear n0_ n1_ n2_ n3_ n4_ n5_; (try clear hb); (try clear hb2); (try clear hk); (try clear hi); (try clear ho0); have hcz32_0 : w31.cell? ⟨gb816, 0, none⟩ = some (.slice A0_0 l0_0.length c0_0) := (blk_cell BK816.out 0).trans rfl; have hcz32_1 : w31.cell? ⟨gb816, 1, none⟩ = some (.slice A0_1 l0_1.length c0_1) := (blk_cell BK816.out 1).trans rfl; have hcz32_2 : w31.cell? ⟨gb816, 2, none⟩ = some (.int .i64 a0_2) := (blk_cell BK816.out 2).trans rfl; have hcz32_3 : w31.cell? ⟨gb816, 3, none⟩ = some (.slice A0_3 l0_3.length c0_3) := (blk_cell BK816.out 3).trans rfl; have hfz32_0 := blk_frozen BK816.out 0; have hfz32_1 := blk_frozen BK816.out 1; have hfz32_2 := blk_frozen BK816.out 2; have hfz32_3 := blk_frozen BK816.out 3) | ((with_reducible refine gate_callee (f := 23) rfl ?_); refine goesL_ (some 33) rfl rfl Try.func23 (by kernel_rfl) rfl #[.agg #[.slice A0_0 l0_0.length c0_0, .slice A0_1 l0_1.length c0_1, .int .i64 a0_2, .slice A0_3 l0_3.length c0_3]] rfl (by (try simp only [List.map_toArray, List.map_cons, List.map_nil]); first | done | rfl | (simp only [List.length_drop, List.length_take]; rfl)) ?_; (with_reducible refine (tensilelaw08_fault.calls kj1 _ _ l0_0 _ _ l0_1 a0_2 _ _ l0_3 t834 _ ?side1 ?side2 ?side3 ?side4 ?side5 ?side6 A24.out).mono ?_); (case side1 => repeat (first | exact (Kd.C_below HR0_0.out HB.out) | (with_reducible refine Kd.C_alloc ?_ _) | (with_reducible refine Kd.C_drewN ?_ _) | (with_reducible refine Kd.C_drew ?_))); (case side2 => exact HC0_0.out); (case side3 => repeat (first | exact (Kd.C_below HR0_1.out HB.out) | (with_reducible refine Kd.C_alloc ?_ _) | (with_reducible refine Kd.C_drewN ?_ _) | (with_reducible refine Kd.C_drew ?_))); (case side4 => exact HC0_1.out); (case side5 => repeat (first | exact (Kd.C_below HR0_3.out HB.out) | (with_reducible refine Kd.C_alloc ?_ _) | (with_reducible refine Kd.C_drewN ?_ _) | (with_reducible refine Kd.C_drew ?_))); (case side6 => exact HC0_3.out); rintro e w33 ⟨rfl, hb⟩; refine ⟨_, rfl, ?_⟩; have n0_ := Aside0.mk (Kd.R_below (by (with_reducible repeat (first | apply Kd.R_alloc | apply Kd.R_drewN | apply Kd.R_drew)); exact HO822.out) hb); have n1_ := Aside0.mk (Kd.R_below (by (with_reducible repeat (first | apply Kd.R_alloc | apply Kd.R_drewN | apply Kd.R_drew)); exact HO825.out) hb); have n2_ := Aside0.mk (Kd.N_below (by (with_reducible repeat (first | apply Kd.N_alloc | apply Kd.N_drewN | apply Kd.N_drew)); exact HO829.out) hb); have n3_ := Aside0.mk (Kd.R_below (by (with_reducible repeat (first | apply Kd.R_alloc | apply Kd.R_drewN | apply Kd.R_drew)); exact HO832.out) hb); have n4_ := Aside0.mk (blk_below (g := gb816) (o := .cells #[.slice A0_0 l0_0.length c0_0, .slice A0_1 l0_1.length c0_1, .int .i64 a0_2, .slice A0_3 l0_3.length c0_3] 26 (0, 0)) (by (with_reducible repeat (first | refine blk_drewN ?_ _ | refine blk_drew ?_ | refine blk_alloc ?_ _)); exact BK816.out) hb); have n5_ := Aside0.mk (below_step (by repeat (first | (with_reducible first | exact HB.out | apply below_alloc | apply pw_below_drewN | apply below_drew1 | refine below_set ?_ GE816.out) | exact HB.out)) hb); clear HO822; clear HO825; clear HO829; clear HO832; clear BK816; clear HB; have HO822 := n0_; have HO825 := n1_; have HO829 := n2_; have HO832 := n3_; have BK816 := n4_; have HB := n5_; clear n0_ n1_ n2_ n3_ n4_ n5_; (try clear hb); (try clear hb2); (try clear hk); (try clear hi)))
    (try simp only [Act.put, List.setIfInBounds_toArray, List.set_cons_zero, List.set_cons_succ])
    go_cut [5, 6] (fun v5 v6 wc => ∃ (kq : Nat) (x5_24 : Int) (x6_24 : List Int), v5 = .int .i64 x5_24 ∧ Aside0 (tensilelaw08_RoundConvicts.j3 kq t830 t833 x5_24 x6_24 = some r) ∧ Aside0 (kq ≤ kj1) ∧ Aside0 (Kd.R (Kd.int .i64) 3 wc w.heap.size (fun k_ => some k_ ≠ (v6 : Value).ownBlock) v831 t830) ∧ Aside0 (Kd.R (Kd.int .i64) 3 wc w.heap.size (fun k_ => some k_ ≠ (v831 : Value).ownBlock) v6 x6_24) ∧ Aside0 (wc.heap[gb816]? = some (.cells #[(.slice A0_0 l0_0.length c0_0), (.slice A0_1 l0_1.length c0_1), .int .i64 a0_2, (.slice A0_3 l0_3.length c0_3)] 26 (0, 0))) ∧ Aside0 (Below w.heap.size w wc))
    case first =>
     have H := HC25.out
     clear HC25
     by_cases c34 : t834 = 0
     ·rw [if_pos c34] at H
      have c34b0 : (t834 == 0) = true := beq_iff_eq.mpr c34
      have c34b1 : (t834 != 0) = false := bne_eq_false_iff_eq.mpr c34
      clear c34
      (first | rw [c34b0] | (simp only [i64_w, i32_w]; rw [c34b0]) | skip)
      replace H := Option.bind_eq_some_iff.mp H
      obtain ⟨t835, A350, H⟩ := H
      replace H : (tensilelaw08_RoundConvicts.l0 kj1 t830 t833 t834 ([] : List Int) t835 0 l0_0 l0_1 a0_2 l0_3) = some r := H
      have A35 := Aside0.mk A350
      clear A350
      have H' := Aside0.mk H
      clear H
      have hcz36_0 : w33.cell? ⟨gb816, 0, none⟩ = some (.slice A0_0 l0_0.length c0_0) := (blk_cell BK816.out 0).trans rfl
      have hcz36_1 : w33.cell? ⟨gb816, 1, none⟩ = some (.slice A0_1 l0_1.length c0_1) := (blk_cell BK816.out 1).trans rfl
      have hcz36_2 : w33.cell? ⟨gb816, 2, none⟩ = some (.int .i64 a0_2) := (blk_cell BK816.out 2).trans rfl
      have hcz36_3 : w33.cell? ⟨gb816, 3, none⟩ = some (.slice A0_3 l0_3.length c0_3) := (blk_cell BK816.out 3).trans rfl
      have hfz36_0 := blk_frozen BK816.out 0
      have hfz36_1 := blk_frozen BK816.out 1
      have hfz36_2 := blk_frozen BK816.out 2
      have hfz36_3 := blk_frozen BK816.out 3
      go_wp2_with (first | ((with_reducible refine gate_callee (f := 31) rfl ?_); refine goesL_ (some 37) rfl rfl Try.func31 (by kernel_rfl) rfl #[.agg #[.slice A0_0 l0_0.length c0_0, .slice A0_1 l0_1.length c0_1, .int .i64 a0_2, .slice A0_3 l0_3.length c0_3]] rfl (by (try simp only [List.map_toArray, List.map_cons, List.map_nil]); first | done | rfl | (simp only [List.length_drop, List.length_take]; rfl)) ?_; (with_reducible refine (tensileref08_Fewest.calls kj1 _ _ l0_0 _ _ l0_1 a0_2 _ _ l0_3 t835 _ ?side1 ?side2 ?side3 ?side4 ?side5 ?side6 A35.out).mono ?_); (case side1 => repeat (first | exact (Kd.C_below HR0_0.out HB.out) | (with_reducible refine Kd.C_alloc ?_ _) | (with_reducible refine Kd.C_drewN ?_ _) | (with_reducible refine Kd.C_drew ?_))); (case side2 => exact HC0_0.out); (case side3 => repeat (first | exact (Kd.C_below HR0_1.out HB.out) | (with_reducible refine Kd.C_alloc ?_ _) | (with_reducible refine Kd.C_drewN ?_ _) | (with_reducible refine Kd.C_drew ?_))); (case side4 => exact HC0_1.out); (case side5 => repeat (first | exact (Kd.C_below HR0_3.out HB.out) | (with_reducible refine Kd.C_alloc ?_ _) | (with_reducible refine Kd.C_drewN ?_ _) | (with_reducible refine Kd.C_drew ?_))); (case side6 => exact HC0_3.out); rintro e w37 ⟨v836, rfl, ho0, hb⟩; refine ⟨_, rfl, ?_⟩; have n0_ := Aside0.mk (Kd.R_below (by (with_reducible repeat (first | apply Kd.R_alloc | apply Kd.R_drewN | apply Kd.R_drew)); exact HO822.out) hb); have n1_ := Aside0.mk (Kd.R_below (by (with_reducible repeat (first | apply Kd.R_alloc | apply Kd.R_drewN | apply Kd.R_drew)); exact HO825.out) hb); have n2_ := Aside0.mk (Kd.N_elder' (by (with_reducible repeat (first | apply Kd.N_alloc | apply Kd.N_drewN | apply Kd.N_drew)); exact HO829.out) (Kd.N_base ho0) hb); have n3_ := Aside0.mk (Kd.R_below (by (with_reducible repeat (first | apply Kd.R_alloc | apply Kd.R_drewN | apply Kd.R_drew)); exact HO832.out) hb); have n4_ := Aside0.mk (Kd.N_lower (Kd.N_mono (ok' := fun k_ => some k_ ≠ (.slice Ao28 t820.length co28 : Value).ownBlock ∧ some k_ ≠ (.slice Ao29 t823.length co29 : Value).ownBlock ∧ some k_ ≠ (.slice Ao30 t827.length co30 : Value).ownBlock ∧ some k_ ≠ (v831 : Value).ownBlock ∧ k_ ≠ gb816) ho0 (fun k_ hk_ => ⟨(Kd.fresh' (Kd.R_lt (by (with_reducible repeat (first | apply Kd.R_alloc | apply Kd.R_drewN | apply Kd.R_drew)); exact HO822.out)) k_ hk_), (Kd.fresh' (Kd.R_lt (by (with_reducible repeat (first | apply Kd.R_alloc | apply Kd.R_drewN | apply Kd.R_drew)); exact HO825.out)) k_ hk_), (Kd.fresh' (Kd.N_lt (by (with_reducible repeat (first | apply Kd.N_alloc | apply Kd.N_drewN | apply Kd.N_drew)); exact HO829.out)) k_ hk_), (Kd.fresh' (Kd.R_lt (by (with_reducible repeat (first | apply Kd.R_alloc | apply Kd.R_drewN | apply Kd.R_drew)); exact HO832.out)) k_ hk_), (Kd.freshB (g := gb816) (o := .cells #[.slice A0_0 l0_0.length c0_0, .slice A0_1 l0_1.length c0_1, .int .i64 a0_2, .slice A0_3 l0_3.length c0_3] 26 (0, 0)) (by (with_reducible repeat (first | refine blk_drewN ?_ _ | refine blk_drew ?_ | refine blk_alloc ?_ _)); exact BK816.out) k_ hk_)⟩)) (below_size (by repeat (first | (with_reducible first | exact HB.out | apply below_alloc | apply pw_below_drewN | apply below_drew1 | refine below_set ?_ GE816.out) | exact HB.out)))); have n5_ := Aside0.mk (blk_below (g := gb816) (o := .cells #[.slice A0_0 l0_0.length c0_0, .slice A0_1 l0_1.length c0_1, .int .i64 a0_2, .slice A0_3 l0_3.length c0_3] 26 (0, 0)) (by (with_reducible repeat (first | refine blk_drewN ?_ _ | refine blk_drew ?_ | refine blk_alloc ?_ _)); exact BK816.out) hb); have n6_ := Aside0.mk (below_step (by repeat (first | (with_reducible first | exact HB.out | apply below_alloc | apply pw_below_drewN | apply below_drew1 | refine below_set ?_ GE816.out) | exact HB.out)) hb); clear HO822; clear HO825; clear HO829; clear HO832; clear BK816; clear HB; have HO822 := n0_; have HO825 := n1_; have HO829 := n2_; have HO832 := n3_; have HO837 := n4_; have BK816 := n5_; have HB := n6_; clear n0_ n1_ n2_ n3_ n4_ n5_ n6_; (try clear hb); (try clear hb2); (try clear hk); (try clear hi); (try clear ho0)))
      go_loopg [6, 8] kj1 (fun kq v6 v8 w' => ∃ (x6_2 : List Int) (x8_2 : Int), v8 = .int .i64 x8_2 ∧ Aside0 (tensilelaw08_RoundConvicts.l0 kq t830 t833 t834 x6_2 t835 x8_2 l0_0 l0_1 a0_2 l0_3 = some r) ∧ Aside0 (kq ≤ kj1) ∧ Aside0 (Kd.R (Kd.int .i64) 3 w' w.heap.size (fun k_ => some k_ ≠ (v6 : Value).ownBlock) v831 t830) ∧ Aside0 (Kd.R (Kd.int .i64) 3 w' w.heap.size (fun k_ => some k_ ≠ (v831 : Value).ownBlock) v6 x6_2) ∧ Aside0 (Kd.N (Kd.slice 3 (Kd.int .i64)) 23 w' w.heap.size (fun k_ => some k_ ≠ (v831 : Value).ownBlock ∧ some k_ ≠ (v6 : Value).ownBlock ∧ k_ ≠ gb816) v836 t835) ∧ Aside0 (w'.heap[gb816]? = some (.cells #[(.slice A0_0 l0_0.length c0_0), (.slice A0_1 l0_1.length c0_1), .int .i64 a0_2, (.slice A0_3 l0_3.length c0_3)] 26 (0, 0))) ∧ Aside0 (Below w.heap.size w w'))
      case atStart => exact ⟨(([] : List Int)), (0), (by first | rfl | (simp; done) | (simp [*]; done)), H', ⟨Nat.le_refl _⟩, ⟨by (with_reducible repeat (first | apply Kd.R_alloc | apply Kd.R_drewN | apply Kd.R_drew)); exact Kd.R_mono HO832.out (fun _ hk => (by simp [Value.ownBlock]))⟩, ⟨by first | exact Kd.R_nil _ _ _ _ _ | exact Kd.N_nil _ _ _ _ _ | exact Kd.V_nil _ _ _ _ _ | exact Kd.Q_nil _ _ _ _ _ | exact Kd.S_nil _ _ _ _ _⟩, ⟨by (with_reducible repeat (first | apply Kd.N_alloc | apply Kd.N_drewN | apply Kd.N_drew)); exact Kd.N_mono HO837.out (fun _ hk => ⟨hk.2.2.2.1, ⟨(by simp [Value.ownBlock]), hk.2.2.2.2⟩⟩)⟩, ⟨by (with_reducible repeat (first | refine blk_drewN ?_ _ | refine blk_drew ?_ | refine blk_alloc ?_ _)); exact BK816.out⟩, ⟨by repeat (first | (with_reducible first | exact HB.out | apply below_alloc | apply pw_below_drewN | apply below_drew1 | refine below_set ?_ GE816.out) | exact HB.out)⟩⟩
      case round =>
       clear H'
       try clear c1
       try clear c2
       try clear p2
       try clear c3
       try clear c5
       try clear c7
       try clear c7b0
       try clear c7b1
       try clear c13
       try clear c17
       try clear c18
       try clear c19
       try clear c20
       try clear c23
       try clear c31
       try clear c34
       try clear c34b0
       try clear c34b1
       try clear hcz10_0
       try clear hcz10_1
       try clear hcz10_2
       try clear hcz10_3
       try clear hcz12_0
       try clear hcz12_1
       try clear hcz12_2
       try clear hcz12_3
       try clear hcz13_0
       try clear hcz13_1
       try clear hcz13_2
       try clear hcz13_3
       try clear hcz15_0
       try clear hcz15_1
       try clear hcz15_2
       try clear hcz15_3
       try clear hcz17_0
       try clear hcz17_1
       try clear hcz17_2
       try clear hcz17_3
       try clear hcz26_0
       try clear hcz26_1
       try clear hcz26_2
       try clear hcz26_3
       try clear hcz32_0
       try clear hcz32_1
       try clear hcz32_2
       try clear hcz32_3
       try clear hcz36_0
       try clear hcz36_1
       try clear hcz36_2
       try clear hcz36_3
       try clear hcz8_0
       try clear hcz8_1
       try clear hcz8_2
       try clear hcz8_3
       try clear hfz10_0
       try clear hfz10_1
       try clear hfz10_2
       try clear hfz10_3
       try clear hfz12_0
       try clear hfz12_1
       try clear hfz12_2
       try clear hfz12_3
       try clear hfz13_0
       try clear hfz13_1
       try clear hfz13_2
       try clear hfz13_3
       try clear hfz15_0
       try clear hfz15_1
       try clear hfz15_2
       try clear hfz15_3
       try clear hfz17_0
       try clear hfz17_1
       try clear hfz17_2
       try clear hfz17_3
       try clear hfz26_0
       try clear hfz26_1
       try clear hfz26_2
       try clear hfz26_3
       try clear hfz32_0
       try clear hfz32_1
       try clear hfz32_2
       try clear hfz32_3
       try clear hfz36_0
       try clear hfz36_1
       try clear hfz36_2
       try clear hfz36_3
       try clear hfz8_0
       try clear hfz8_1
       try clear hfz8_2
       try clear hfz8_3
       try clear p2
       obtain ⟨x6_2, x8_2, rfl, HA, HK2, HO_3, HO_6, HO_7, BK816, HB⟩ := hrel
       cases gk with
       | zero => exact absurd HA.out (by simp [tensilelaw08_RoundConvicts.l0])
       | succ k2 =>
        have H := HA.out
        clear HA
        simp only [tensilelaw08_RoundConvicts.l0] at H
        by_cases c38 : x8_2 < (l0_3.length : Int)
        ·rw [if_pos c38] at H
         have c38b0 : decide (x8_2 < (l0_3.length : Int)) = true := decide_eq_true c38
         clear c38
         have H' := Aside0.mk H
         clear H
         have hcz39_0 : wr.cell? ⟨gb816, 0, none⟩ = some (.slice A0_0 l0_0.length c0_0) := (blk_cell BK816.out 0).trans rfl
         have hcz39_1 : wr.cell? ⟨gb816, 1, none⟩ = some (.slice A0_1 l0_1.length c0_1) := (blk_cell BK816.out 1).trans rfl
         have hcz39_2 : wr.cell? ⟨gb816, 2, none⟩ = some (.int .i64 a0_2) := (blk_cell BK816.out 2).trans rfl
         have hcz39_3 : wr.cell? ⟨gb816, 3, none⟩ = some (.slice A0_3 l0_3.length c0_3) := (blk_cell BK816.out 3).trans rfl
         have hfz39_0 := blk_frozen BK816.out 0
         have hfz39_1 := blk_frozen BK816.out 1
         have hfz39_2 := blk_frozen BK816.out 2
         have hfz39_3 := blk_frozen BK816.out 3
         go_wp2
         go_loopg [9, 10] k2 (fun kq v9 v10 w' => ∃ (x9_3 : Bool) (x10_3 : Int), v9 = .bool x9_3 ∧ v10 = .int .i64 x10_3 ∧ Aside0 (tensilelaw08_RoundConvicts.l1 kq t830 t833 t834 x6_2 t835 x8_2 x9_3 x10_3 l0_0 l0_1 a0_2 l0_3 = some r) ∧ Aside0 (kq ≤ k2) ∧ Aside0 (Kd.R (Kd.int .i64) 3 w' w.heap.size (fun k_ => some k_ ≠ (u6 : Value).ownBlock) v831 t830) ∧ Aside0 (Kd.R (Kd.int .i64) 3 w' w.heap.size (fun k_ => some k_ ≠ (v831 : Value).ownBlock) u6 x6_2) ∧ Aside0 (Kd.N (Kd.slice 3 (Kd.int .i64)) 23 w' w.heap.size (fun k_ => some k_ ≠ (v831 : Value).ownBlock ∧ some k_ ≠ (u6 : Value).ownBlock ∧ k_ ≠ gb816) v836 t835) ∧ Aside0 (w'.heap[gb816]? = some (.cells #[(.slice A0_0 l0_0.length c0_0), (.slice A0_1 l0_1.length c0_1), .int .i64 a0_2, (.slice A0_3 l0_3.length c0_3)] 26 (0, 0))) ∧ Aside0 (Below w.heap.size w w'))
         case atStart => exact ⟨(true), (0), (by first | rfl | (simp; done) | (simp [*]; done)), (by first | rfl | (simp; done) | (simp [*]; done)), H', ⟨Nat.le_refl _⟩, ⟨by (with_reducible repeat (first | apply Kd.R_alloc | apply Kd.R_drewN | apply Kd.R_drew)); exact HO_3.out⟩, ⟨by (with_reducible repeat (first | apply Kd.R_alloc | apply Kd.R_drewN | apply Kd.R_drew)); exact HO_6.out⟩, ⟨by (with_reducible repeat (first | apply Kd.N_alloc | apply Kd.N_drewN | apply Kd.N_drew)); exact HO_7.out⟩, ⟨by (with_reducible repeat (first | refine blk_drewN ?_ _ | refine blk_drew ?_ | refine blk_alloc ?_ _)); exact BK816.out⟩, ⟨by repeat (first | (with_reducible first | exact HB.out | apply below_alloc | apply pw_below_drewN | apply below_drew1 | refine below_set ?_ GE816.out) | exact HB.out)⟩⟩
         case round =>
          clear H'
          try clear c1
          try clear c2
          try clear p2
          try clear c3
          try clear c5
          try clear c7
          try clear c7b0
          try clear c7b1
          try clear c13
          try clear c17
          try clear c18
          try clear c19
          try clear c20
          try clear c23
          try clear c31
          try clear c34
          try clear c34b0
          try clear c34b1
          try clear c38
          try clear c38b0
          try clear hcz10_0
          try clear hcz10_1
          try clear hcz10_2
          try clear hcz10_3
          try clear hcz12_0
          try clear hcz12_1
          try clear hcz12_2
          try clear hcz12_3
          try clear hcz13_0
          try clear hcz13_1
          try clear hcz13_2
          try clear hcz13_3
          try clear hcz15_0
          try clear hcz15_1
          try clear hcz15_2
          try clear hcz15_3
          try clear hcz17_0
          try clear hcz17_1
          try clear hcz17_2
          try clear hcz17_3
          try clear hcz26_0
          try clear hcz26_1
          try clear hcz26_2
          try clear hcz26_3
          try clear hcz32_0
          try clear hcz32_1
          try clear hcz32_2
          try clear hcz32_3
          try clear hcz36_0
          try clear hcz36_1
          try clear hcz36_2
          try clear hcz36_3
          try clear hcz39_0
          try clear hcz39_1
          try clear hcz39_2
          try clear hcz39_3
          try clear hcz8_0
          try clear hcz8_1
          try clear hcz8_2
          try clear hcz8_3
          try clear hfz10_0
          try clear hfz10_1
          try clear hfz10_2
          try clear hfz10_3
          try clear hfz12_0
          try clear hfz12_1
          try clear hfz12_2
          try clear hfz12_3
          try clear hfz13_0
          try clear hfz13_1
          try clear hfz13_2
          try clear hfz13_3
          try clear hfz15_0
          try clear hfz15_1
          try clear hfz15_2
          try clear hfz15_3
          try clear hfz17_0
          try clear hfz17_1
          try clear hfz17_2
          try clear hfz17_3
          try clear hfz26_0
          try clear hfz26_1
          try clear hfz26_2
          try clear hfz26_3
          try clear hfz32_0
          try clear hfz32_1
          try clear hfz32_2
          try clear hfz32_3
          try clear hfz36_0
          try clear hfz36_1
          try clear hfz36_2
          try clear hfz36_3
          try clear hfz39_0
          try clear hfz39_1
          try clear hfz39_2
          try clear hfz39_3
          try clear hfz8_0
          try clear hfz8_1
          try clear hfz8_2
          try clear hfz8_3
          try clear p2
          obtain ⟨x9_3, x10_3, rfl, rfl, HA, HK3, HO_3, HO_6, HO_7, BK816, HB⟩ := hrel
          cases gk with
          | zero => exact absurd HA.out (by simp [tensilelaw08_RoundConvicts.l1])
          | succ k3 =>
           have H := HA.out
           clear HA
           simp only [tensilelaw08_RoundConvicts.l1] at H
           by_cases c40 : x10_3 < (t835.length : Int)
           ·rw [if_pos c40] at H
            have c40b0 : decide (x10_3 < (t835.length : Int)) = true := decide_eq_true c40
            clear c40
            by_cases c41 : x9_3 = true
            ·subst c41
             have H1 : (if 0 ≤ x10_3 then ((tensileref08_Has.f k3 (rd_L2 t835 x10_3) x8_2).bind fun t839 => (tensilelaw08_RoundConvicts.l1 k3 t830 t833 t834 x6_2 t835 x8_2 t839 (wrap64 (x10_3 + 1)) l0_0 l0_1 a0_2 l0_3)) else (none)) = some r := by rw [if_pos rfl] at H; exact H
             clear H
             have H := H1
             clear H1
             by_cases c42 : 0 ≤ x10_3
             ·rw [if_pos c42] at H
              have c42b0 : decide (0 ≤ x10_3) = true := decide_eq_true c42
              clear c42
              replace H := Option.bind_eq_some_iff.mp H
              obtain ⟨t839, A430, H⟩ := H
              replace H : (tensilelaw08_RoundConvicts.l1 k3 t830 t833 t834 x6_2 t835 x8_2 t839 (wrap64 (x10_3 + 1)) l0_0 l0_1 a0_2 l0_3) = some r := H
              have A43 := Aside0.mk A430
              clear A430
              have H' := Aside0.mk H
              clear H
              obtain ⟨Ao44, co44, eo44⟩ := Kd.N_slice HO_7.out
              subst eo44
              have p838 : 0 ≤ (x10_3 : Int) := of_decide_eq_true (by first | (with_reducible assumption) | assumption)
              have q838 : x10_3 < (t835.length : Int) := of_decide_eq_true (by first | (with_reducible assumption) | assumption)
              obtain ⟨ad838, A838_0, c838_0, e838, hx838_0, hl838_0, hi838_0⟩ := at_L2 (Kd.N_reads' HO_7.out).2.2 x10_3 p838 q838
              cases e838
              obtain ⟨ce838, hce838, hMe838, hcc838⟩ := Kd.N_get HO_7.out [] x10_3 p838 (by first | exact q838 | exact of_decide_eq_true (by first | (with_reducible assumption) | assumption) | (have e_ := (Kd.N_reads' HO_7.out).1; omega))
              obtain ⟨ua838_0, uc838_0, rfl, ul838_0, ge838_0⟩ := Kd.FK_slice_open hMe838
              have hv838_0 := hcc838 0 _ rfl
              rw [Nat.add_zero, show ((Kd.slice 3 (Kd.int .i64))).sz = 1 from rfl, Nat.mul_one] at hv838_0
              replace hv838_0 := Option.some.inj (hv838_0.symm.trans hx838_0)
              injection hv838_0 with hva_ hvn_ hvc_
              rw [hva_] at ge838_0
              rw [hvc_] at ul838_0
              have HL838_0 := Aside0.mk (show Kd.V (Kd.int .i64) 3 _ w.heap.size _ _ (rd_L2 t835 x10_3) from Kd.V_mk ul838_0 ge838_0)
              clear hva_ hvn_ hvc_ ge838_0 ul838_0
              clear hcc838 hce838
              have HR838_0 := Aside0.mk hi838_0
              have HC838_0 := Aside0.mk hl838_0
              clear hi838_0 hl838_0
              replace p838 := eq_true p838
              replace q838 := eq_true q838
              go_wp2_with (first | (go_at_call 39; (with_reducible refine (tensileref08_Has.calls k3 _ _ (rd_L2 t835 x10_3) x8_2 t839 _ ?side1 ?side2 A43.out).mono ?_); (case side1 => repeat (first | exact (by repeat (first | (with_reducible exact HR838_0.out) | (with_reducible refine Kd.C_alloc ?_ _) | (with_reducible refine Kd.C_drewN ?_ _) | (with_reducible refine Kd.C_drew ?_) | exact HR838_0.out)) | (with_reducible refine Kd.C_alloc ?_ _) | (with_reducible refine Kd.C_drewN ?_ _) | (with_reducible refine Kd.C_drew ?_))); (case side2 => exact HC838_0.out); rintro e w' ⟨rfl, ⟨nd, rfl⟩⟩))
              go_roundg k3
              case measure => have := HJ1.out; have := HK2.out; have := HK3.out; omega
              case rel => exact ⟨(t839), (wrap64 (x10_3 + 1)), (by first | rfl | (simp; done) | (simp [*]; done)), (by first | rfl | (simp; done) | (simp [*]; done)), H', ⟨by have := HJ1.out; have := HK2.out; have := HK3.out; omega⟩, ⟨by (with_reducible repeat (first | apply Kd.R_alloc | apply Kd.R_drewN | apply Kd.R_drew)); exact HO_3.out⟩, ⟨by (with_reducible repeat (first | apply Kd.R_alloc | apply Kd.R_drewN | apply Kd.R_drew)); exact HO_6.out⟩, ⟨by (with_reducible repeat (first | apply Kd.N_alloc | apply Kd.N_drewN | apply Kd.N_drew)); exact HO_7.out⟩, ⟨by (with_reducible repeat (first | refine blk_drewN ?_ _ | refine blk_drew ?_ | refine blk_alloc ?_ _)); exact BK816.out⟩, ⟨by repeat (first | (with_reducible first | exact HB.out | apply below_alloc | apply pw_below_drewN | apply below_drew1 | refine below_set ?_ GE816.out) | exact HB.out)⟩⟩
             ·rw [if_neg c42] at H
              exact absurd H (by simp)
            ·replace c41 := Bool.eq_false_iff.mpr c41
             subst c41
             have H1 : (tensilelaw08_RoundConvicts.l1 k3 t830 t833 t834 x6_2 t835 x8_2 false (wrap64 (x10_3 + 1)) l0_0 l0_1 a0_2 l0_3) = some r := by rw [if_neg (show ¬ (false = true) by decide)] at H; exact H
             clear H
             have H := H1
             clear H1
             have H' := Aside0.mk H
             clear H
             obtain ⟨Ao45, co45, eo45⟩ := Kd.N_slice HO_7.out
             subst eo45
             go_wp2
             go_roundg k3
             case measure => have := HJ1.out; have := HK2.out; have := HK3.out; omega
             case rel => exact ⟨(false), (wrap64 (x10_3 + 1)), (by first | rfl | (simp; done) | (simp [*]; done)), (by first | rfl | (simp; done) | (simp [*]; done)), H', ⟨by have := HJ1.out; have := HK2.out; have := HK3.out; omega⟩, ⟨by (with_reducible repeat (first | apply Kd.R_alloc | apply Kd.R_drewN | apply Kd.R_drew)); exact HO_3.out⟩, ⟨by (with_reducible repeat (first | apply Kd.R_alloc | apply Kd.R_drewN | apply Kd.R_drew)); exact HO_6.out⟩, ⟨by (with_reducible repeat (first | apply Kd.N_alloc | apply Kd.N_drewN | apply Kd.N_drew)); exact HO_7.out⟩, ⟨by (with_reducible repeat (first | refine blk_drewN ?_ _ | refine blk_drew ?_ | refine blk_alloc ?_ _)); exact BK816.out⟩, ⟨by repeat (first | (with_reducible first | exact HB.out | apply below_alloc | apply pw_below_drewN | apply below_drew1 | refine below_set ?_ GE816.out) | exact HB.out)⟩⟩
           ·rw [if_neg c40] at H
            have c40b0 : decide (x10_3 < (t835.length : Int)) = false := decide_eq_false c40
            clear c40
            by_cases c46 : x9_3 = true
            ·subst c46
             have H1 : (if x6_2.length < 17592186044416 then (tensilelaw08_RoundConvicts.l0 k3 t830 t833 t834 (x6_2 ++ [x8_2]) t835 (wrap64 (x8_2 + 1)) l0_0 l0_1 a0_2 l0_3) else (none)) = some r := by rw [if_pos rfl] at H; exact H
             clear H
             have H := H1
             clear H1
             by_cases c47 : x6_2.length < 17592186044416
             ·rw [if_pos c47] at H
              have LMc47 := Aside0.mk c47
              clear c47
              obtain ⟨y840, hy840⟩ : ∃ y_ : List Int, y_ = (x6_2 ++ [x8_2]) := ⟨_, rfl⟩
              replace H : (tensilelaw08_RoundConvicts.l0 k3 t830 t833 t834 y840 t835 (wrap64 (x8_2 + 1)) l0_0 l0_1 a0_2 l0_3) = some r := by first | (rw [hy840]; with_reducible exact H) | (have H2_ := (Option.bind_some _ _).symm.trans H; rw [hy840]; with_reducible exact H2_) | (have H2_ := (Option.bind_some _ _).symm.trans H; with_reducible exact H2_) | with_reducible exact H | (rw [hy840]; exact H) | exact H
              have Ny840 := Aside0.mk hy840
              clear hy840
              have H' := Aside0.mk H
              clear H
              obtain ⟨Ao48, co48, eo48⟩ := Kd.N_slice HO_7.out
              subst eo48
              go_wp2_with (first | ((with_reducible refine gate_builtin (b := .append) (xs := #[.tmp 61, .tmp 63]) rfl ?_); (try (refine gate_guard (by rfl) ?_; dsimp only)); at_builtin; refine Kd.R_append (Kd.int .i64) (w0 := w) w.heap.size rfl (.tmp 61) (.tmp 63) 23 3 (.int .i64 0) 8 rfl Try.underlying23 info3 rfl (by decide) (by omega) u6 x6_2 x8_2 [.int .i64 x8_2] (fun k_ => some k_ ≠ (v831 : Value).ownBlock) (fun _ => False) rfl rfl ?aP (fun _ hk => hk.elim) ?aF ?aO ?aB ?aS ?aL ?_; (case aP => exact rfl); (case aB => exact (by repeat (first | (with_reducible first | exact HB.out | apply below_alloc | apply pw_below_drewN | apply below_drew1 | refine below_set ?_ GE816.out) | exact HB.out))); (case aF => exact (fun k_ hk => Kd.fresh' (Kd.R_lt (by (with_reducible repeat (first | apply Kd.R_alloc | apply Kd.R_drewN | apply Kd.R_drew)); exact HO_3.out)) k_ hk)); (case aO => exact (by (with_reducible repeat (first | apply Kd.R_alloc | apply Kd.R_drewN | apply Kd.R_drew)); exact HO_6.out)); (case aS => exact (below_size (by repeat (first | (with_reducible first | exact HB.out | apply below_alloc | apply pw_below_drewN | apply below_drew1 | refine below_set ?_ GE816.out) | exact HB.out)))); (case aL => have := LMc47.out; omega); intro v841 w49 ho hb hg hat; rw [← Ny840.out] at ho; have n0_ := Aside0.mk (Kd.R_after (ok := (fun _ => True)) (by (with_reducible repeat (first | apply Kd.R_alloc | apply Kd.R_drewN | apply Kd.R_drew)); exact Kd.R_mono HO_3.out (fun _ hk => ⟨trivial, hk⟩)) hg hat); have n1_ := Aside0.mk (Kd.N_afterv (ok := (fun k_ => some k_ ≠ (v831 : Value).ownBlock ∧ k_ ≠ gb816)) (by (with_reducible repeat (first | apply Kd.N_alloc | apply Kd.N_drewN | apply Kd.N_drew)); exact Kd.N_mono HO_7.out (fun _ hk => ⟨⟨hk.1, hk.2.2⟩, hk.2.1⟩)) hg hat); have n2_ := Aside0.mk (blk_grown (g := gb816) (o := .cells #[.slice A0_0 l0_0.length c0_0, .slice A0_1 l0_1.length c0_1, .int .i64 a0_2, .slice A0_3 l0_3.length c0_3] 26 (0, 0)) (by (with_reducible repeat (first | refine blk_drewN ?_ _ | refine blk_drew ?_ | refine blk_alloc ?_ _)); exact BK816.out) hg (Kd.R_ne HO_6.out BK816.out (by decide))); have n3_ := Aside0.mk (hb); have n4_ := Aside0.mk (ho); clear HO_3; clear HO_7; clear BK816; clear HB; clear HO_6; have HO_3 := n0_; have HO_7 := n1_; have BK816 := n2_; have HB := n3_; have HO842 := n4_; clear n0_ n1_ n2_ n3_ n4_; clear ho hb hg hat))
              go_roundg k3
              case measure => have := HJ1.out; have := HK2.out; have := HK3.out; omega
              case rel => exact ⟨(y840), (wrap64 (x8_2 + 1)), (by first | rfl | (simp; done) | (simp [*]; done)), H', ⟨by have := HJ1.out; have := HK2.out; have := HK3.out; omega⟩, ⟨by (with_reducible repeat (first | apply Kd.R_alloc | apply Kd.R_drewN | apply Kd.R_drew)); exact Kd.R_mono HO_3.out (fun _ hk => hk.2)⟩, ⟨by (with_reducible repeat (first | apply Kd.R_alloc | apply Kd.R_drewN | apply Kd.R_drew)); exact HO842.out⟩, ⟨by (with_reducible repeat (first | apply Kd.N_alloc | apply Kd.N_drewN | apply Kd.N_drew)); exact Kd.N_mono HO_7.out (fun _ hk => ⟨hk.1.1, ⟨hk.2, hk.1.2⟩⟩)⟩, ⟨by (with_reducible repeat (first | refine blk_drewN ?_ _ | refine blk_drew ?_ | refine blk_alloc ?_ _)); exact BK816.out⟩, ⟨by repeat (first | (with_reducible first | exact HB.out | apply below_alloc | apply pw_below_drewN | apply below_drew1 | refine below_set ?_ GE816.out) | exact HB.out)⟩⟩
             ·rw [if_neg c47] at H
              exact absurd H (by simp)
            ·replace c46 := Bool.eq_false_iff.mpr c46
             subst c46
             have H1 : (tensilelaw08_RoundConvicts.l0 k3 t830 t833 t834 x6_2 t835 (wrap64 (x8_2 + 1)) l0_0 l0_1 a0_2 l0_3) = some r := by rw [if_neg (show ¬ (false = true) by decide)] at H; exact H
             clear H
             have H := H1
             clear H1
             have H' := Aside0.mk H
             clear H
             obtain ⟨Ao50, co50, eo50⟩ := Kd.N_slice HO_7.out
             subst eo50
             go_wp2
             go_roundg k3
             case measure => have := HJ1.out; have := HK2.out; have := HK3.out; omega
             case rel => exact ⟨(x6_2), (wrap64 (x8_2 + 1)), (by first | rfl | (simp; done) | (simp [*]; done)), H', ⟨by have := HJ1.out; have := HK2.out; have := HK3.out; omega⟩, ⟨by (with_reducible repeat (first | apply Kd.R_alloc | apply Kd.R_drewN | apply Kd.R_drew)); exact HO_3.out⟩, ⟨by (with_reducible repeat (first | apply Kd.R_alloc | apply Kd.R_drewN | apply Kd.R_drew)); exact HO_6.out⟩, ⟨by (with_reducible repeat (first | apply Kd.N_alloc | apply Kd.N_drewN | apply Kd.N_drew)); exact HO_7.out⟩, ⟨by (with_reducible repeat (first | refine blk_drewN ?_ _ | refine blk_drew ?_ | refine blk_alloc ?_ _)); exact BK816.out⟩, ⟨by repeat (first | (with_reducible first | exact HB.out | apply below_alloc | apply pw_below_drewN | apply below_drew1 | refine below_set ?_ GE816.out) | exact HB.out)⟩⟩
        ·rw [if_neg c38] at H
         have c38b0 : decide (x8_2 < (l0_3.length : Int)) = false := decide_eq_false c38
         clear c38
         by_cases c51 : (x6_2.length : Int) = 0
         ·rw [if_pos c51] at H
          have c51b0 : ((x6_2.length : Int) == 0) = true := beq_iff_eq.mpr c51
          have c51b1 : ((x6_2.length : Int) != 0) = false := bne_eq_false_iff_eq.mpr c51
          clear c51
          have H' := Aside0.mk H
          clear H
          have hcz52_0 : wr.cell? ⟨gb816, 0, none⟩ = some (.slice A0_0 l0_0.length c0_0) := (blk_cell BK816.out 0).trans rfl
          have hcz52_1 : wr.cell? ⟨gb816, 1, none⟩ = some (.slice A0_1 l0_1.length c0_1) := (blk_cell BK816.out 1).trans rfl
          have hcz52_2 : wr.cell? ⟨gb816, 2, none⟩ = some (.int .i64 a0_2) := (blk_cell BK816.out 2).trans rfl
          have hcz52_3 : wr.cell? ⟨gb816, 3, none⟩ = some (.slice A0_3 l0_3.length c0_3) := (blk_cell BK816.out 3).trans rfl
          have hfz52_0 := blk_frozen BK816.out 0
          have hfz52_1 := blk_frozen BK816.out 1
          have hfz52_2 := blk_frozen BK816.out 2
          have hfz52_3 := blk_frozen BK816.out 3
          obtain ⟨Ao53, co53, eo53⟩ := Kd.R_slice HO_6.out
          subst eo53
          go_wp2
          go_meet
          case rel => exact ⟨_, (7), (x6_2), (by first | rfl | (simp; done) | (simp [*]; done)), H', ⟨by have := HJ1.out; have := HK2.out; first | omega | exact Nat.le_refl _⟩, ⟨by (with_reducible repeat (first | apply Kd.R_alloc | apply Kd.R_drewN | apply Kd.R_drew)); exact HO_3.out⟩, ⟨by (with_reducible repeat (first | apply Kd.R_alloc | apply Kd.R_drewN | apply Kd.R_drew)); exact HO_6.out⟩, ⟨by (with_reducible repeat (first | refine blk_drewN ?_ _ | refine blk_drew ?_ | refine blk_alloc ?_ _)); exact BK816.out⟩, ⟨by repeat (first | (with_reducible first | exact HB.out | apply below_alloc | apply pw_below_drewN | apply below_drew1 | refine below_set ?_ GE816.out) | exact HB.out)⟩⟩
         ·rw [if_neg c51] at H
          have c51b0 : ((x6_2.length : Int) == 0) = false := beq_eq_false_iff_ne.mpr c51
          have c51b1 : ((x6_2.length : Int) != 0) = true := bne_iff_ne.mpr c51
          have c51b2 : ¬ (x6_2 = []) := fun h_ => c51 (by rw [h_]; rfl)
          have H' := Aside0.mk H
          clear H
          have hcz54_0 : wr.cell? ⟨gb816, 0, none⟩ = some (.slice A0_0 l0_0.length c0_0) := (blk_cell BK816.out 0).trans rfl
          have hcz54_1 : wr.cell? ⟨gb816, 1, none⟩ = some (.slice A0_1 l0_1.length c0_1) := (blk_cell BK816.out 1).trans rfl
          have hcz54_2 : wr.cell? ⟨gb816, 2, none⟩ = some (.int .i64 a0_2) := (blk_cell BK816.out 2).trans rfl
          have hcz54_3 : wr.cell? ⟨gb816, 3, none⟩ = some (.slice A0_3 l0_3.length c0_3) := (blk_cell BK816.out 3).trans rfl
          have hfz54_0 := blk_frozen BK816.out 0
          have hfz54_1 := blk_frozen BK816.out 1
          have hfz54_2 := blk_frozen BK816.out 2
          have hfz54_3 := blk_frozen BK816.out 3
          obtain ⟨Ao55, co55, eo55⟩ := Kd.R_slice HO_6.out
          subst eo55
          go_wp2
          go_meet
          case rel => exact ⟨_, (t834), (x6_2), (by first | rfl | (simp; done) | (simp [*]; done)), H', ⟨by have := HJ1.out; have := HK2.out; first | omega | exact Nat.le_refl _⟩, ⟨by (with_reducible repeat (first | apply Kd.R_alloc | apply Kd.R_drewN | apply Kd.R_drew)); exact HO_3.out⟩, ⟨by (with_reducible repeat (first | apply Kd.R_alloc | apply Kd.R_drewN | apply Kd.R_drew)); exact HO_6.out⟩, ⟨by (with_reducible repeat (first | refine blk_drewN ?_ _ | refine blk_drew ?_ | refine blk_alloc ?_ _)); exact BK816.out⟩, ⟨by repeat (first | (with_reducible first | exact HB.out | apply below_alloc | apply pw_below_drewN | apply below_drew1 | refine below_set ?_ GE816.out) | exact HB.out)⟩⟩
     ·rw [if_neg c34] at H
      have c34b0 : (t834 == 0) = false := beq_eq_false_iff_ne.mpr c34
      have c34b1 : (t834 != 0) = true := bne_iff_ne.mpr c34
      (first | rw [c34b0] | (simp only [i64_w, i32_w]; rw [c34b0]) | skip)
      have H' := Aside0.mk H
      clear H
      go_wp2
      go_meet
      case rel => exact ⟨_, (t834), (([] : List Int)), (by first | rfl | (simp; done) | (simp [*]; done)), H', ⟨by have := HJ1.out; first | omega | exact Nat.le_refl _⟩, ⟨by (with_reducible repeat (first | apply Kd.R_alloc | apply Kd.R_drewN | apply Kd.R_drew)); exact Kd.R_mono HO832.out (fun _ hk => (by simp [Value.ownBlock]))⟩, ⟨by first | exact Kd.R_nil _ _ _ _ _ | exact Kd.N_nil _ _ _ _ _ | exact Kd.V_nil _ _ _ _ _ | exact Kd.Q_nil _ _ _ _ _ | exact Kd.S_nil _ _ _ _ _⟩, ⟨by (with_reducible repeat (first | refine blk_drewN ?_ _ | refine blk_drew ?_ | refine blk_alloc ?_ _)); exact BK816.out⟩, ⟨by repeat (first | (with_reducible first | exact HB.out | apply below_alloc | apply pw_below_drewN | apply below_drew1 | refine below_set ?_ GE816.out) | exact HB.out)⟩⟩
    case rest =>
     clear HC25
     try clear c1
     try clear c2
     try clear p2
     try clear c3
     try clear c4
     try clear c5
     try clear p6
     try clear c7
     try clear c7b0
     try clear c7b1
     try clear c8
     try clear p8
     try clear q8
     try clear hx8
     try clear c13
     try clear c17
     try clear c18
     try clear c19
     try clear c20
     try clear c23
     try clear c31
     try clear c34
     try clear c34b0
     try clear c34b1
     try clear c38
     try clear c38b0
     try clear c40
     try clear c40b0
     try clear c41
     try clear c42
     try clear c42b0
     try clear c46
     try clear c47
     try clear c51
     try clear c51b0
     try clear c51b1
     try clear c51b2
     try clear hcz10_0
     try clear hcz10_1
     try clear hcz10_2
     try clear hcz10_3
     try clear hcz12_0
     try clear hcz12_1
     try clear hcz12_2
     try clear hcz12_3
     try clear hcz13_0
     try clear hcz13_1
     try clear hcz13_2
     try clear hcz13_3
     try clear hcz15_0
     try clear hcz15_1
     try clear hcz15_2
     try clear hcz15_3
     try clear hcz17_0
     try clear hcz17_1
     try clear hcz17_2
     try clear hcz17_3
     try clear hcz26_0
     try clear hcz26_1
     try clear hcz26_2
     try clear hcz26_3
     try clear hcz32_0
     try clear hcz32_1
     try clear hcz32_2
     try clear hcz32_3
     try clear hcz36_0
     try clear hcz36_1
     try clear hcz36_2
     try clear hcz36_3
     try clear hcz39_0
     try clear hcz39_1
     try clear hcz39_2
     try clear hcz39_3
     try clear hcz52_0
     try clear hcz52_1
     try clear hcz52_2
     try clear hcz52_3
     try clear hcz54_0
     try clear hcz54_1
     try clear hcz54_2
     try clear hcz54_3
     try clear hcz8_0
     try clear hcz8_1
     try clear hcz8_2
     try clear hcz8_3
     try clear hfz10_0
     try clear hfz10_1
     try clear hfz10_2
     try clear hfz10_3
     try clear hfz12_0
     try clear hfz12_1
     try clear hfz12_2
     try clear hfz12_3
     try clear hfz13_0
     try clear hfz13_1
     try clear hfz13_2
     try clear hfz13_3
     try clear hfz15_0
     try clear hfz15_1
     try clear hfz15_2
     try clear hfz15_3
     try clear hfz17_0
     try clear hfz17_1
     try clear hfz17_2
     try clear hfz17_3
     try clear hfz26_0
     try clear hfz26_1
     try clear hfz26_2
     try clear hfz26_3
     try clear hfz32_0
     try clear hfz32_1
     try clear hfz32_2
     try clear hfz32_3
     try clear hfz36_0
     try clear hfz36_1
     try clear hfz36_2
     try clear hfz36_3
     try clear hfz39_0
     try clear hfz39_1
     try clear hfz39_2
     try clear hfz39_3
     try clear hfz52_0
     try clear hfz52_1
     try clear hfz52_2
     try clear hfz52_3
     try clear hfz54_0
     try clear hfz54_1
     try clear hfz54_2
     try clear hfz54_3
     try clear hfz8_0
     try clear hfz8_1
     try clear hfz8_2
     try clear hfz8_3
     try clear hx838_0
     try clear p2
     try clear p838
     try clear q838
     obtain ⟨kq, x5_24, x6_24, rfl, HA, HJ24, HO_3, HO_6, BK816, HB⟩ := hcut
     cases kq with
     | zero => exact absurd HA.out (by simp [tensilelaw08_RoundConvicts.j3])
     | succ kj24 =>
      have H := HA.out
      clear HA
      simp only [tensilelaw08_RoundConvicts.j3] at H
      by_cases c56 : x5_24 = 0
      ·rw [if_pos c56] at H
       have c56b0 : (x5_24 == 0) = true := beq_iff_eq.mpr c56
       have c56b1 : (x5_24 != 0) = false := bne_eq_false_iff_eq.mpr c56
       clear c56
       by_cases c57 : t833 = 0
       ·rw [if_pos c57] at H
        have c57b0 : (t833 == 0) = true := beq_iff_eq.mpr c57
        have c57b1 : (t833 != 0) = false := bne_eq_false_iff_eq.mpr c57
        clear c57
        replace H := Option.bind_eq_some_iff.mp H
        obtain ⟨t843, A580, H⟩ := H
        replace H : (if t843 = true then ((tensilelaw08_wakes.f).bind fun t844 => (some t844)) else (some false)) = some r := H
        have A58 := Aside0.mk A580
        clear A580
        by_cases c59 : t843 = true
        ·subst c59
         have H1 : ((tensilelaw08_wakes.f).bind fun t844 => (some t844)) = some r := by rw [if_pos rfl] at H; exact H
         clear H
         have H := H1
         clear H1
         replace H := Option.bind_eq_some_iff.mp H
         obtain ⟨t844, A600, H⟩ := H
         replace H : (some t844) = some r := H
         have A60 := Aside0.mk A600
         clear A600
         obtain rfl := Option.some.inj H
         obtain ⟨Ao61, co61, eo61⟩ := Kd.R_slice HO_3.out
         subst eo61
         obtain ⟨Ao62, co62, eo62⟩ := Kd.R_slice HO_6.out
         subst eo62
         go_wp2_with (first | (go_at_call 30; (with_reducible refine (tensilelaw08_ints.calls kj24 _ _ t830 _ _ x6_24 true _ ?side1 ?side2 ?side3 ?side4 A58.out).mono ?_); (case side1 => repeat (first | exact (Kd.R_reads' HO_3.out).2.2 | (with_reducible refine Kd.C_alloc ?_ _) | (with_reducible refine Kd.C_drewN ?_ _) | (with_reducible refine Kd.C_drew ?_))); (case side2 => exact (Kd.R_reads' HO_3.out).2.1); (case side3 => repeat (first | exact (Kd.R_reads' HO_6.out).2.2 | (with_reducible refine Kd.C_alloc ?_ _) | (with_reducible refine Kd.C_drewN ?_ _) | (with_reducible refine Kd.C_drew ?_))); (case side4 => exact (Kd.R_reads' HO_6.out).2.1); rintro e w' ⟨rfl, ⟨nd, rfl⟩⟩) | (go_at_call 18; (with_reducible refine (tensilelaw08_wakes.calls  t844 _ A60.out).mono ?_); rintro e w63 ⟨rfl, hb⟩; have n0_ := Aside0.mk (Kd.R_below (by (with_reducible repeat (first | apply Kd.R_alloc | apply Kd.R_drewN | apply Kd.R_drew)); exact HO_3.out) hb); have n1_ := Aside0.mk (Kd.R_below (by (with_reducible repeat (first | apply Kd.R_alloc | apply Kd.R_drewN | apply Kd.R_drew)); exact HO_6.out) hb); have n2_ := Aside0.mk (blk_below (g := gb816) (o := .cells #[.slice A0_0 l0_0.length c0_0, .slice A0_1 l0_1.length c0_1, .int .i64 a0_2, .slice A0_3 l0_3.length c0_3] 26 (0, 0)) (by (with_reducible repeat (first | refine blk_drewN ?_ _ | refine blk_drew ?_ | refine blk_alloc ?_ _)); exact BK816.out) hb); have n3_ := Aside0.mk (below_step (by repeat (first | (with_reducible first | exact HB.out | apply below_alloc | apply pw_below_drewN | apply below_drew1 | refine below_set ?_ GE816.out) | exact HB.out)) hb); clear HO_3; clear HO_6; clear BK816; clear HB; have HO_3 := n0_; have HO_6 := n1_; have BK816 := n2_; have HB := n3_; clear n0_ n1_ n2_ n3_; (try clear hb); (try clear hb2); (try clear hk); (try clear hi)))
         go_ret
         exact ⟨by first | rfl | (simp [errW_none, errW_some] <;> rfl) | (simp [*, errW_none, errW_some] <;> rfl), by repeat (first | (with_reducible first | exact HB.out | apply below_alloc | apply pw_below_drewN | apply below_drew1 | refine below_set ?_ GE816.out) | exact HB.out)⟩
        ·replace c59 := Bool.eq_false_iff.mpr c59
         subst c59
         have H1 : (some false) = some r := by rw [if_neg (show ¬ (false = true) by decide)] at H; exact H
         clear H
         have H := H1
         clear H1
         obtain rfl := Option.some.inj H
         obtain ⟨Ao64, co64, eo64⟩ := Kd.R_slice HO_3.out
         subst eo64
         obtain ⟨Ao65, co65, eo65⟩ := Kd.R_slice HO_6.out
         subst eo65
         go_wp2_with (first | (go_at_call 30; (with_reducible refine (tensilelaw08_ints.calls kj24 _ _ t830 _ _ x6_24 false _ ?side1 ?side2 ?side3 ?side4 A58.out).mono ?_); (case side1 => repeat (first | exact (Kd.R_reads' HO_3.out).2.2 | (with_reducible refine Kd.C_alloc ?_ _) | (with_reducible refine Kd.C_drewN ?_ _) | (with_reducible refine Kd.C_drew ?_))); (case side2 => exact (Kd.R_reads' HO_3.out).2.1); (case side3 => repeat (first | exact (Kd.R_reads' HO_6.out).2.2 | (with_reducible refine Kd.C_alloc ?_ _) | (with_reducible refine Kd.C_drewN ?_ _) | (with_reducible refine Kd.C_drew ?_))); (case side4 => exact (Kd.R_reads' HO_6.out).2.1); rintro e w' ⟨rfl, ⟨nd, rfl⟩⟩))
         go_ret
         exact ⟨by first | rfl | (simp [errW_none, errW_some] <;> rfl) | (simp [*, errW_none, errW_some] <;> rfl), by repeat (first | (with_reducible first | exact HB.out | apply below_alloc | apply pw_below_drewN | apply below_drew1 | refine below_set ?_ GE816.out) | exact HB.out)⟩
       ·rw [if_neg c57] at H
        have c57b0 : (t833 == 0) = false := beq_eq_false_iff_ne.mpr c57
        have c57b1 : (t833 != 0) = true := bne_iff_ne.mpr c57
        obtain rfl := Option.some.inj H
        go_wp2
        go_ret
        exact ⟨by first | rfl | (simp [errW_none, errW_some] <;> rfl) | (simp [*, errW_none, errW_some] <;> rfl), by repeat (first | (with_reducible first | exact HB.out | apply below_alloc | apply pw_below_drewN | apply below_drew1 | refine below_set ?_ GE816.out) | exact HB.out)⟩
      ·rw [if_neg c56] at H
       have c56b0 : (x5_24 == 0) = false := beq_eq_false_iff_ne.mpr c56
       have c56b1 : (x5_24 != 0) = true := bne_iff_ne.mpr c56
       by_cases c66 : t833 = x5_24
       ·rw [if_pos c66] at H
        have c66b0 : (t833 == x5_24) = true := beq_iff_eq.mpr c66
        have c66b1 : (t833 != x5_24) = false := bne_eq_false_iff_eq.mpr c66
        clear c66
        by_cases c67 : (t830.length : Int) = 0
        ·rw [if_pos c67] at H
         have c67b0 : ((t830.length : Int) == 0) = true := beq_iff_eq.mpr c67
         have c67b1 : ((t830.length : Int) != 0) = false := bne_eq_false_iff_eq.mpr c67
         clear c67
         replace H := Option.bind_eq_some_iff.mp H
         obtain ⟨t845, A680, H⟩ := H
         replace H : (some t845) = some r := H
         have A68 := Aside0.mk A680
         clear A680
         obtain rfl := Option.some.inj H
         obtain ⟨Ao69, co69, eo69⟩ := Kd.R_slice HO_3.out
         subst eo69
         go_wp2_with (first | (go_at_call 18; (with_reducible refine (tensilelaw08_wakes.calls  t845 _ A68.out).mono ?_); rintro e w70 ⟨rfl, hb⟩; have n0_ := Aside0.mk (Kd.R_below (by (with_reducible repeat (first | apply Kd.R_alloc | apply Kd.R_drewN | apply Kd.R_drew)); exact HO_3.out) hb); have n1_ := Aside0.mk (Kd.R_below (by (with_reducible repeat (first | apply Kd.R_alloc | apply Kd.R_drewN | apply Kd.R_drew)); exact HO_6.out) hb); have n2_ := Aside0.mk (blk_below (g := gb816) (o := .cells #[.slice A0_0 l0_0.length c0_0, .slice A0_1 l0_1.length c0_1, .int .i64 a0_2, .slice A0_3 l0_3.length c0_3] 26 (0, 0)) (by (with_reducible repeat (first | refine blk_drewN ?_ _ | refine blk_drew ?_ | refine blk_alloc ?_ _)); exact BK816.out) hb); have n3_ := Aside0.mk (below_step (by repeat (first | (with_reducible first | exact HB.out | apply below_alloc | apply pw_below_drewN | apply below_drew1 | refine below_set ?_ GE816.out) | exact HB.out)) hb); clear HO_3; clear HO_6; clear BK816; clear HB; have HO_3 := n0_; have HO_6 := n1_; have BK816 := n2_; have HB := n3_; clear n0_ n1_ n2_ n3_; (try clear hb); (try clear hb2); (try clear hk); (try clear hi)))
         go_ret
         exact ⟨by first | rfl | (simp [errW_none, errW_some] <;> rfl) | (simp [*, errW_none, errW_some] <;> rfl), by repeat (first | (with_reducible first | exact HB.out | apply below_alloc | apply pw_below_drewN | apply below_drew1 | refine below_set ?_ GE816.out) | exact HB.out)⟩
        ·rw [if_neg c67] at H
         have c67b0 : ((t830.length : Int) == 0) = false := beq_eq_false_iff_ne.mpr c67
         have c67b1 : ((t830.length : Int) != 0) = true := bne_iff_ne.mpr c67
         have c67b2 : ¬ (t830 = []) := fun h_ => c67 (by rw [h_]; rfl)
         obtain rfl := Option.some.inj H
         obtain ⟨Ao71, co71, eo71⟩ := Kd.R_slice HO_3.out
         subst eo71
         go_wp2
         go_ret
         exact ⟨by first | rfl | (simp [errW_none, errW_some] <;> rfl) | (simp [*, errW_none, errW_some] <;> rfl), by repeat (first | (with_reducible first | exact HB.out | apply below_alloc | apply pw_below_drewN | apply below_drew1 | refine below_set ?_ GE816.out) | exact HB.out)⟩
       ·rw [if_neg c66] at H
        have c66b0 : (t833 == x5_24) = false := beq_eq_false_iff_ne.mpr c66
        have c66b1 : (t833 != x5_24) = true := bne_iff_ne.mpr c66
        obtain rfl := Option.some.inj H
        go_wp2
        go_ret
        exact ⟨by first | rfl | (simp [errW_none, errW_some] <;> rfl) | (simp [*, errW_none, errW_some] <;> rfl), by repeat (first | (with_reducible first | exact HB.out | apply below_alloc | apply pw_below_drewN | apply below_drew1 | refine below_set ?_ GE816.out) | exact HB.out)⟩
end Go.Proofs.Ytcpbhklaffgokaa.Q
namespace Go.Proofs.Ytcpbhklaffgokaa.Q
open Go.RowKit Go.Proofs.YtcpbhklaffgokaaW.PrintWords Go.Proofs.YtcpbhklaffgokaaW.PrintLast Go.Proofs.YtcpbhklaffgokaaW.PrintMore
set_option linter.unusedVariables false
set_option linter.unusedSimpArgs false
theorem upto_append (a m j : Nat) : upto a (m + j) = upto a m ++ upto (a + m) j := by
 unfold upto
 rw [← List.range'_append_1, List.map_append]
theorem mem_upto (a m : Nat) (x : Int) : x ∈ upto a m ↔ (a : Int) ≤ x ∧ x < (a + m : Nat) := by
 unfold upto
 rw [List.mem_map]
 constructor
 ·rintro ⟨k, hk, rfl⟩
  rw [List.mem_range'_1] at hk
  omega
 ·rintro ⟨h1, h2⟩
  exact ⟨x.toNat, by rw [List.mem_range'_1]; omega, by omega⟩
theorem fromF_rising {can : List Int → Bool} {n : Nat} : ∀ {m : Nat} {l : List Int} {next : Nat} {y : List Int}, y ∈ fromF can n m l next → next ≤ n → ∃ t, y = l ++ t ∧ (upto next (n - next)).filter (fun x => t.contains x) = t := by
 intro m
 induction m with
 | zero =>
  intro l next y hy _
  simp only [fromF] at hy
  split at hy
  ·rw [List.mem_singleton.1 hy]
   refine ⟨[], by simp, ?_⟩
   rw [List.filter_eq_nil_iff]
   intro a _
   simp
  ·cases hy
 | succ m ih =>
  intro l next y hy hn
  simp only [fromF, List.mem_flatMap] at hy
  obtain ⟨k, hk1, hk⟩ := hy
  rw [List.mem_range'_1] at hk1
  obtain ⟨t, rfl, ht⟩ := ih hk (by omega)
  refine ⟨(k : Int) :: t, by simp, ?_⟩
  have htm : ∀ x ∈ t, (k : Int) + 1 ≤ x := by
   intro x hx
   rw [← ht, List.mem_filter, mem_upto] at hx
   omega
  rw [show n - next = (k - next) + ((n - (k + 1)) + 1) by omega, upto_append, show next + (k - next) = k by omega, upto_succ, List.filter_append, List.filter_cons_of_pos (by simp)]
  have e1 : (upto next (k - next)).filter (fun x => ((k : Int) :: t).contains x) = [] := by
   rw [List.filter_eq_nil_iff]
   intro x hx
   rw [mem_upto] at hx
   simp only [List.contains_iff_mem, List.mem_cons, not_or]
   exact ⟨by omega, fun h => by have := htm x h; omega⟩
  have e2 : (upto (k + 1) (n - (k + 1))).filter (fun x => ((k : Int) :: t).contains x) = (upto (k + 1) (n - (k + 1))).filter (fun x => t.contains x) := by
   refine List.filter_congr (fun x hx => ?_)
   rw [mem_upto] at hx
   refine bool_ext ?_
   simp only [List.contains_iff_mem, List.mem_cons]
   constructor
   ·rintro (h | h)
    ·omega
    ·exact h
   ·exact .inr
  rw [e1, e2, ht]
  rfl
theorem fewK_rising {can : List Int → Bool} {n : Nat} : ∀ (k : Nat) (y : List Int), y ∈ fewK can n k → (upto 0 n).filter (fun x => y.contains x) = y := by
 intro k
 induction k with
 | zero => intro y hy; cases hy
 | succ k ih =>
  intro y hy
  simp only [fewK] at hy
  split at hy
  ·obtain ⟨t, rfl, ht⟩ := fromF_rising hy (Nat.zero_le _)
   simpa using ht
  ·exact ih y hy
theorem conv_eq {can : List Int → Bool} {n k : Nat} (h : 0 < (fewK can n k).length) : convL (fewK can n k) = (upto 0 n).filter (convP (fewK can n k)) := by
 have hm : (fewK can n k).getD 0 [] ∈ fewK can n k := by
  rw [List.getD_eq_getElem?_getD, List.getElem?_eq_getElem h]
  exact List.getElem_mem _
 unfold convL
 have hr := fewK_rising k _ hm
 generalize (fewK can n k).getD 0 [] = y at hm hr ⊢
 conv => lhs; rw [← hr]
 rw [List.filter_filter]
 refine List.filter_congr (fun x _ => ?_)
 refine bool_ext ?_
 simp only [Bool.and_eq_true]
 constructor
 ·exact fun h => h.1
 ·intro h
  refine ⟨h, ?_⟩
  unfold convP at h
  rw [List.all_eq_true] at h
  exact h y hm
theorem RoundConvicts_pure (lots : List S44) (samples : List Int) (spread : Int) (labs : List S62) (hs : Sz lots samples labs) : ∃ k, tensilelaw08_RoundConvicts.f k lots samples spread labs = some true := by
 refine Ev_rounds (g := fun k => tensilelaw08_RoundConvicts.f k lots samples spread labs) ?_
 unfold tensilelaw08_RoundConvicts.f
 obtain ⟨b, hb, ht⟩ := Few_ev lots samples spread labs hs
 have hwake : Ev (fun k => tensilelaw08_RoundConvicts.j0 k true lots samples spread labs) true := Ev.step (fun k => by simp only [tensilelaw08_RoundConvicts.j0]; rw [if_pos trivial, wakes_eq, Option.bind_some]) (Ev.now _)
 refine Ev.bind hb ?_
 cases b with
 | false => exact Ev.congr (fun k => by rw [if_neg (by decide)]) hwake
 | true =>
  refine Ev.congr (fun k => by rw [if_pos rfl]) ?_
  have hf := Fault_ev lots samples spread labs hs
  have main : Ev (fun k => tensilelaw08_RoundConvicts.j0 k false lots samples spread labs) true := by
   have hr := Round_ev lots samples spread labs (ht rfl)
   have hf := fault_ev lots samples spread labs hs
   refine Ev.step (fun k => by simp only [tensilelaw08_RoundConvicts.j0]; rw [if_neg (by decide)]) ?_
   refine Ev.bind hr ?_
   unfold round_Convicted.f
   simp only [Option.bind_some]
   refine Ev.bind hf ?_
   by_cases hc : checkRound (lots.map m46) samples spread (labs.map m75) = 0
   ·have hok := roundOk_of_check hc
    have h0 := fewest_some hc
    have h6 := hok.b6
    rw [List.length_map] at h6
    have hx : convF (lots.map m46) samples spread (labs.map m75) = if convL (fewestF (lots.map m46) samples spread (labs.map m75)) = [] then ([], 7) else (convL (fewestF (lots.map m46) samples spread (labs.map m75)), 0) := by
     unfold convF
     rw [if_pos hc]
    rw [hx]
    refine Ev.congr (fun k => by rw [if_pos hc]) ?_
    refine Ev.bind (Fewest_ev lots samples spread labs hok) ?_
    have hcv : convL (fewestF (lots.map m46) samples spread (labs.map m75)) = (upto 0 labs.length).filter (convP (fewestF (lots.map m46) samples spread (labs.map m75))) := by
     have := conv_eq (can := fun l => canF (lots.map m46) samples spread (labs.map m75) (offOf l)) (n := (labs.map m75).length) (k := (labs.map m75).length + 1) h0
     rw [List.length_map] at this
     unfold fewestF
     rw [List.length_map]
     exact this
    have hll : (fewestF (lots.map m46) samples spread (labs.map m75)).length ≤ 46656 := by
     unfold fewestF
     rw [List.length_map]
     exact fewK_length _ _ h6 _ (by omega)
    have hmem : ∀ y ∈ fewestF (lots.map m46) samples spread (labs.map m75), y.length ≤ 9223372036854775807 := fun y hy => by
     have := (fewGo_all _ _ _).2 y hy
     rw [List.length_map] at this
     omega
    rw [hc]
    generalize fewestF (lots.map m46) samples spread (labs.map m75) = ls at hcv hll hmem ⊢
    have in1 : ∀ (d j i : Nat) (b : Bool) (X : List Int) (R : Bool) (a c : List Int) (x4 : Int), ls.length - i = d → j < labs.length → X.length ≤ 100 →
      Ev (fun k => tensilelaw08_RoundConvicts.l0 k a x4 0 (if (b && (ls.drop i).all fun y => y.contains (j : Int)) = true then X ++ [(j : Int)] else X) ls (((j + 1 : Nat)) : Int) lots samples spread labs) R →
      Ev (fun k => tensilelaw08_RoundConvicts.l1 k a x4 0 X ls (j : Int) b (i : Int) lots samples spread labs) R := by
     intro d
     induction d with
     | zero =>
      intro j i b X R a c x4 hd hj hX hR
      rw [drop_end ls i (by omega)] at hR
      simp only [List.all_nil, Bool.and_true] at hR
      rw [← wr1 j _ hj (by omega)] at hR
      cases b with
      | true =>
       rw [if_pos rfl] at hR
       exact Ev.step (fun k => by simp only [tensilelaw08_RoundConvicts.l1]; rw [if_neg (by omega), if_pos trivial, if_pos (by omega)]) hR
      | false =>
       rw [if_neg (by decide)] at hR
       exact Ev.step (fun k => by simp only [tensilelaw08_RoundConvicts.l1]; rw [if_neg (by omega), if_neg (by decide)]) hR
     | succ d ih =>
      intro j i b X R a c x4 hd hj hX hR
      have hlt : i < ls.length := by omega
      have hdr := rdL2_drop ls i hlt
      rw [hdr, List.all_cons] at hR
      cases b with
      | true =>
       refine Ev.step (fun k => by simp only [tensilelaw08_RoundConvicts.l1]; rw [if_pos (by omega), if_pos trivial, if_pos (by omega), wr1 i _ hlt (by omega)]) ?_
       refine Ev.bind (Has_ev (rd_L2 ls (i : Int)) (j : Int) (hmem _ (mem_drop0 hdr))) ?_
       rw [Bool.true_and] at hR
       exact ih j (i + 1) _ X R a c x4 (by omega) hj hX hR
      | false =>
       refine Ev.step (fun k => by simp only [tensilelaw08_RoundConvicts.l1]; rw [if_pos (by omega), if_neg (by decide), wr1 i _ hlt (by omega)]) ?_
       refine ih j (i + 1) false X R a c x4 (by omega) hj hX ?_
       simpa using hR
    have in0 : ∀ (d j : Nat) (a : List Int) (x4 : Int) (R : Bool), labs.length - j = d → j ≤ labs.length →
      Ev (fun k => tensilelaw08_RoundConvicts.j3 k a x4 (if ((upto 0 labs.length).filter (convP ls)).length = 0 then 7 else 0) ((upto 0 labs.length).filter (convP ls))) R →
      Ev (fun k => tensilelaw08_RoundConvicts.l0 k a x4 0 ((upto 0 j).filter (convP ls)) ls (j : Int) lots samples spread labs) R := by
     intro d
     induction d with
     | zero =>
      intro j a x4 R hd hj hR
      obtain rfl : j = labs.length := by omega
      by_cases hz : ((upto 0 labs.length).filter (convP ls)).length = 0
      ·rw [if_pos hz] at hR
       exact Ev.step (fun k => by simp only [tensilelaw08_RoundConvicts.l0]; rw [if_neg (by omega), if_pos (by omega)]) hR
      ·rw [if_neg hz] at hR
       exact Ev.step (fun k => by simp only [tensilelaw08_RoundConvicts.l0]; rw [if_neg (by omega), if_neg (by omega)]) hR
     | succ d ih =>
      intro j a x4 R hd hj hR
      have hlt : j < labs.length := by omega
      refine Ev.step (fun k => by simp only [tensilelaw08_RoundConvicts.l0]; rw [if_pos (by omega)]) ?_
      have hlen : ((upto 0 j).filter (convP ls)).length ≤ 100 := by
       refine Nat.le_trans (List.length_filter_le _ _) ?_
       simp only [upto, List.length_map, List.length_range']
       omega
      have h := in1 ls.length j 0 true ((upto 0 j).filter (convP ls)) R a [] x4 (by omega) hlt hlen
      rw [List.drop_zero, Bool.true_and] at h
      refine h ?_
      have e : (if (ls.all fun y => y.contains (j : Int)) = true then (upto 0 j).filter (convP ls) ++ [(j : Int)] else (upto 0 j).filter (convP ls)) = (upto 0 (j + 1)).filter (convP ls) := by
       rw [upto_append, List.filter_append, Nat.zero_add]
       have : upto j 1 = [(j : Int)] := rfl
       rw [this]
       by_cases hp : convP ls (j : Int) = true
       ·rw [List.filter_cons_of_pos hp, if_pos (show (ls.all fun y => y.contains (j : Int)) = true from hp)]; rfl
       ·rw [List.filter_cons_of_neg hp, if_neg (show ¬ (ls.all fun y => y.contains (j : Int)) = true from hp)]; simp
      rw [e]
      exact ih (j + 1) a x4 R (by omega) (by omega) hR
    rw [← hcv] at in0
    by_cases hz : convL ls = []
    ·rw [if_pos hz]
     have := in0 labs.length 0 [] 7 true (by omega) (by omega) (by
      rw [hz, if_pos (by rfl)]
      exact Ev.step (fun k => by simp only [tensilelaw08_RoundConvicts.j3]; rw [if_neg (by decide), if_pos trivial, if_pos (by rfl), wakes_eq, Option.bind_some]) (Ev.now _))
     exact this
    ·rw [if_neg hz]
     have hz2 : ¬ (convL ls).length = 0 := fun h => hz (List.length_eq_zero_iff.1 h)
     have hlen : (convL ls).length ≤ 9223372036854775807 := by
      rw [hcv]
      refine Nat.le_trans (List.length_filter_le _ _) ?_
      simp only [upto, List.length_map, List.length_range']
      omega
     have := in0 labs.length 0 (convL ls) 0 true (by omega) (by omega) (by
      rw [if_neg hz2]
      refine Ev.step (fun k => by simp only [tensilelaw08_RoundConvicts.j3]; rw [if_pos trivial, if_pos trivial]) ?_
      refine Ev.bind (ints_ev (convL ls) hlen) ?_
      exact Ev.congr (fun k => by rw [if_pos rfl, wakes_eq, Option.bind_some]) (Ev.now _))
     exact this
   ·have hx : convF (lots.map m46) samples spread (labs.map m75) = ([], checkRound (lots.map m46) samples spread (labs.map m75)) := by
     unfold convF
     rw [if_neg hc]
    rw [hx]
    refine Ev.congr (fun k => by rw [if_neg hc]) ?_
    exact Ev.step (fun k => by simp only [tensilelaw08_RoundConvicts.j3]; rw [if_neg hc, if_pos trivial, if_pos (by rfl), wakes_eq, Option.bind_some]) (Ev.now _)
  refine Ev.bind hf ?_
  by_cases hc : checkRound (lots.map m46) samples spread (labs.map m75) = 0
  ·refine Ev.congr (fun k => by rw [if_pos hc]) ?_
   by_cases h4 : (labs.length : Int) > 4
   ·rw [decide_eq_true h4]; exact hwake
   ·rw [decide_eq_false h4]; exact main
  ·exact Ev.congr (fun k => by rw [if_neg hc]) main
theorem RoundConvicts_walk (A0 : Option Addr) (c0 : Nat) (lots : List S44) (A1 : Option Addr) (c1 : Nat) (samples : List Int) (spread : Int) (A3 : Option Addr) (c3 : Nat) (labs : List S62) (W : World) {v : Value} (hi : In26 W v A0 c0 lots A1 c1 samples spread A3 c3 labs) :
  Calls Try.prog 13 #[.agg #[.slice A0 lots.length c0, .slice A1 samples.length c1, .int .i64 spread, .slice A3 labs.length c3]] W fun e W' => e = .returned (.bool true) ∧ Below W.heap.size W W' := by
 obtain ⟨k, h⟩ := RoundConvicts_pure lots samples spread labs ⟨hi.a, hi.b, hi.c, hi.d⟩
 exact tensilelaw08_RoundConvicts.calls k A0 c0 lots A1 c1 samples spread A3 c3 labs true W hi.r0 hi.h0 hi.r1 hi.h1 hi.r3 hi.h3 h
end Go.Proofs.Ytcpbhklaffgokaa.Q
