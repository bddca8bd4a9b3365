import Derived.Test.YtcpbhklaffgokaaC5x11
namespace Go.Proofs.Ytcpbhklaffgokaa.Q
open Go.RowKit Go.Proofs.YtcpbhklaffgokaaW.PrintWords Go.Proofs.YtcpbhklaffgokaaW.PrintLast Go.Proofs.YtcpbhklaffgokaaW.PrintMore
attribute [local go_sem] max2_int min2_int max_two min_two max_three min_three max_four min_four
set_option linter.unusedVariables false
set_option linter.unusedSimpArgs false
mutual
def tensilelaw08_RoundApart.l0 : Nat → List Int → Bool → Int → Bool → Int → List (S44) → List Int → Int → List (S62) → Option (Bool)
 | 0, _, _, _, _, _, _, _, _, _ => none
 | k + 1, x5, x6, x7, x8, x9, x558000, x558001, x558002, x558003 => if x9 < (x558000.length : Int) then (tensilelaw08_RoundApart.l1 k x5 x6 x7 x8 x9 0 x558000 x558001 x558002 x558003 x558000 x558001 x558002 ([] : List (S62))) else (if x7 = 0 then (if (x6 == x8) = true then ((tensilelaw08_wakes.f).bind fun t578 => (some t578)) else (some false)) else (some false))
def tensilelaw08_RoundApart.l1 : Nat → List Int → Bool → Int → Bool → Int → Int → List (S44) → List Int → Int → List (S62) → List (S44) → List Int → Int → List (S62) → Option (Bool)
 | 0, _, _, _, _, _, _, _, _, _, _, _, _, _, _ => none
 | k + 1, x5, x6, x7, x8, x9, x11, x558000, x558001, x558002, x558003, x580000, x580001, x580002, x580003 => if x11 < (x558003.length : Int) then (if 0 ≤ x11 then ((tensilelaw08_list.f ((rd_T62 x558003 x11).f1)).bind fun t582 => (tensilelaw08_RoundApart.l2 k x5 x6 x7 x8 x9 x11 0 x558000 x558001 x558002 x558003 x580000 x580001 x580002 x580003 ((rd_T62 x558003 x11).f0) t582)) else (none)) else ((tensilelaw08_Round.f k x580000 x580001 x580002 x580003).bind fun bt591 => ((tensilelaw08_list.f x5).bind fun t601 => ((round_Explains.f bt591.1 bt591.2.1 bt591.2.2.1 bt591.2.2.2 t601).bind fun bt604 => (if bt604.2 = 0 then (if x8 = true then (tensilelaw08_RoundApart.l0 k x5 x6 x7 bt604.1 (wrap64 (x9 + 1)) x558000 x558001 x558002 x558003) else (tensilelaw08_RoundApart.l0 k x5 x6 x7 false (wrap64 (x9 + 1)) x558000 x558001 x558002 x558003)) else (some false)))))
def tensilelaw08_RoundApart.l2 : Nat → List Int → Bool → Int → Bool → Int → Int → Int → List (S44) → List Int → Int → List (S62) → List (S44) → List Int → Int → List (S62) → Int → List Int → Option (Bool)
 | 0, _, _, _, _, _, _, _, _, _, _, _, _, _, _, _, _, _ => none
 | k + 1, x5, x6, x7, x8, x9, x11, x13, x558000, x558001, x558002, x558003, x580000, x580001, x580002, x580003, x586000, x586001 => if x13 < (x558001.length : Int) then (if 0 ≤ x13 then (if (rd x558001 x13) = x9 then (tensilelaw08_RoundApart.l2 k x5 x6 x7 x8 x9 x11 (wrap64 (x13 + 1)) x558000 x558001 x558002 x558003 x580000 x580001 x580002 x580003 x586000 x586001) else (if x13 < (x586001.length : Int) then (tensilelaw08_RoundApart.l2 k x5 x6 x7 x8 x9 x11 (wrap64 (x13 + 1)) x558000 x558001 x558002 x558003 x580000 x580001 x580002 x580003 x586000 (x586001.set (x13 : Int).toNat (-1))) else (none))) else (none)) else (if x580003.length < 4398046511104 then (tensilelaw08_RoundApart.l1 k x5 x6 x7 x8 x9 (wrap64 (x11 + 1)) x558000 x558001 x558002 x558003 x580000 x580001 x580002 (x580003 ++ [(⟨x586000, x586001⟩ : S62)])) else (none))
end
def tensilelaw08_RoundApart.f (k : Nat) (l0_0 : List (S44)) (l0_1 : List Int) (a0_2 : Int) (l0_3 : List (S62)) (a1 : Int) : Option (Bool) := (tensilelaw08_ready.f k l0_0 l0_1 a0_2 l0_3).bind fun t558 => (if t558 = true then ((tensilelaw08_chosen.f k l0_0 l0_1 a0_2 l0_3 a1).bind fun t560 => ((tensilelaw08_Round.f k l0_0 l0_1 a0_2 l0_3).bind fun bt563 => ((tensilelaw08_list.f t560).bind fun t573 => ((round_Explains.f bt563.1 bt563.2.1 bt563.2.2.1 bt563.2.2.2 t573).bind fun bt576 => (tensilelaw08_RoundApart.l0 k t560 bt576.1 bt576.2 true 0 l0_0 l0_1 a0_2 l0_3))))) else ((tensilelaw08_wakes.f).bind fun t559 => (some t559)))
def tensilelaw08_RoundApart.T14 : Bool × List (List Nat × List Nat) := (true, [([], []), ([0], [0]), ([], []), ([1, 2], [1, 2]), ([3], [3]), ([4], [4]), ([], []), ([6], [6]), ([], []), ([7, 8], [7, 8]), ([9], [9]), ([10], [10]), ([11], [11]), ([5, 12], [5, 12]), ([], []), ([14, 13, 12, 0, 1, 2, 3, 4, 5, 6, 7, 8, 9, 10, 11, 12, 13, 14], [13, 14])])
def tensilelaw08_RoundApart.B14 : List Nat := [0, 1, 0, 7, 15, 31, 0, 64, 0, 448, 960, 1984, 4032, 8191, 0, 32767]
theorem tensilelaw08_RoundApart.tab14 : rtab .any (opsOf Try.f10 14) = tensilelaw08_RoundApart.T14 := by kernel_rfl
theorem tensilelaw08_RoundApart.bits14 : waitsOk tensilelaw08_RoundApart.T14.2 tensilelaw08_RoundApart.B14 = true := by kernel_rfl
set_option maxHeartbeats 8000000 in
set_option maxRecDepth 100000 in
theorem tensilelaw08_RoundApart.calls (k : Nat) (A0_0 : Option Addr) (c0_0 : Nat) (l0_0 : List (S44)) (A0_1 : Option Addr) (c0_1 : Nat) (l0_1 : List Int) (a0_2 : Int) (A0_3 : Option Addr) (c0_3 : Nat) (l0_3 : List (S62)) (a1 : Int) (r : Bool) (w : World) (hr0_0 : Kd.C k44 w A0_0 l0_0.length l0_0) (hc0_0 : l0_0.length ≤ c0_0) (hr0_1 : Kd.C (Kd.int .i64) w A0_1 l0_1.length l0_1) (hc0_1 : l0_1.length ≤ c0_1) (hr0_3 : Kd.C k62 w A0_3 l0_3.length l0_3) (hc0_3 : l0_3.length ≤ c0_3) (h : tensilelaw08_RoundApart.f k l0_0 l0_1 a0_2 l0_3 a1 = some r) :
  Calls Try.prog 10 #[.agg #[.slice A0_0 l0_0.length c0_0, .slice A0_1 l0_1.length c0_1, .int .i64 a0_2, .slice A0_3 l0_3.length c0_3], .int .u8 a1] w fun e w' => e = .returned (.bool r) ∧ Below w.heap.size w w' := by
 have hu26 := Try.underlying26
 have hu62 := Try.underlying62
 have HR0_0 := Aside0.mk hr0_0
 have HC0_0 := Aside0.mk hc0_0
 clear hr0_0 hc0_0
 have HR0_1 := Aside0.mk hr0_1
 have HC0_1 := Aside0.mk hc0_1
 clear hr0_1 hc0_1
 have HR0_3 := Aside0.mk hr0_3
 have HC0_3 := Aside0.mk hc0_3
 clear hr0_3 hc0_3
 have HB := Aside0.mk (Below.refl w.heap.size w)
 have H : ((tensilelaw08_ready.f k l0_0 l0_1 a0_2 l0_3).bind fun t558 => (if t558 = true then ((tensilelaw08_chosen.f k l0_0 l0_1 a0_2 l0_3 a1).bind fun t560 => ((tensilelaw08_Round.f k l0_0 l0_1 a0_2 l0_3).bind fun bt563 => ((tensilelaw08_list.f t560).bind fun t573 => ((round_Explains.f bt563.1 bt563.2.1 bt563.2.2.1 bt563.2.2.2 t573).bind fun bt576 => (tensilelaw08_RoundApart.l0 k t560 bt576.1 bt576.2 true 0 l0_0 l0_1 a0_2 l0_3))))) else ((tensilelaw08_wakes.f).bind fun t559 => (some t559)))) = some r := h
 clear h
 replace H := Option.bind_eq_some_iff.mp H
 obtain ⟨t558, A30, H⟩ := H
 replace H : (if t558 = true then ((tensilelaw08_chosen.f k l0_0 l0_1 a0_2 l0_3 a1).bind fun t560 => ((tensilelaw08_Round.f k l0_0 l0_1 a0_2 l0_3).bind fun bt563 => ((tensilelaw08_list.f t560).bind fun t573 => ((round_Explains.f bt563.1 bt563.2.1 bt563.2.2.1 bt563.2.2.2 t573).bind fun bt576 => (tensilelaw08_RoundApart.l0 k t560 bt576.1 bt576.2 true 0 l0_0 l0_1 a0_2 l0_3))))) else ((tensilelaw08_wakes.f).bind fun t559 => (some t559))) = some r := H
 have A3 := Aside0.mk A30
 clear A30
 by_cases c4 : t558 = true
 ·subst c4
  have H1 : ((tensilelaw08_chosen.f k l0_0 l0_1 a0_2 l0_3 a1).bind fun t560 => ((tensilelaw08_Round.f k l0_0 l0_1 a0_2 l0_3).bind fun bt563 => ((tensilelaw08_list.f t560).bind fun t573 => ((round_Explains.f bt563.1 bt563.2.1 bt563.2.2.1 bt563.2.2.2 t573).bind fun bt576 => (tensilelaw08_RoundApart.l0 k t560 bt576.1 bt576.2 true 0 l0_0 l0_1 a0_2 l0_3))))) = some r := by rw [if_pos rfl] at H; exact H
  clear H
  have H := H1
  clear H1
  replace H := Option.bind_eq_some_iff.mp H
  obtain ⟨t560, A50, H⟩ := H
  replace H : ((tensilelaw08_Round.f k l0_0 l0_1 a0_2 l0_3).bind fun bt563 => ((tensilelaw08_list.f t560).bind fun t573 => ((round_Explains.f bt563.1 bt563.2.1 bt563.2.2.1 bt563.2.2.2 t573).bind fun bt576 => (tensilelaw08_RoundApart.l0 k t560 bt576.1 bt576.2 true 0 l0_0 l0_1 a0_2 l0_3)))) = some r := H
  have A5 := Aside0.mk A50
  clear A50
  replace H := Option.bind_eq_some_iff.mp H
  obtain ⟨⟨t563, t566, t569, t570⟩, A60, H⟩ := H
  replace H : ((tensilelaw08_list.f t560).bind fun t573 => ((round_Explains.f t563 t566 t569 t570 t573).bind fun bt576 => (tensilelaw08_RoundApart.l0 k t560 bt576.1 bt576.2 true 0 l0_0 l0_1 a0_2 l0_3))) = some r := H
  have A6 := Aside0.mk A60
  clear A60
  replace H := Option.bind_eq_some_iff.mp H
  obtain ⟨t573, A70, H⟩ := H
  replace H : ((round_Explains.f t563 t566 t569 t570 t573).bind fun bt576 => (tensilelaw08_RoundApart.l0 k t560 bt576.1 bt576.2 true 0 l0_0 l0_1 a0_2 l0_3)) = some r := H
  have A7 := Aside0.mk A70
  clear A70
  replace H := Option.bind_eq_some_iff.mp H
  obtain ⟨⟨t576, t577⟩, A80, H⟩ := H
  replace H : (tensilelaw08_RoundApart.l0 k t560 t576 t577 true 0 l0_0 l0_1 a0_2 l0_3) = some r := H
  have A8 := Aside0.mk A80
  clear A80
  have H' := Aside0.mk H
  clear H
  go_enter Try.func10, Try.ntmps10
  go_wp2_with (first | ((with_reducible refine gate_dst (N := 2) rfl ?_); refine box_event ?hg (N := 2) ?hd (cs := #[.slice A0_0 l0_0.length c0_0, .slice A0_1 l0_1.length c0_1, .int .i64 a0_2, .slice A0_3 l0_3.length c0_3]) (t := 26) ?hr ?_; (case hd => rfl); (case hg => rfl); (case hr => first | (go_simp; done) | (go_simp; rfl)); intro gb557 hg w9 hbox hb; have n0_ := Aside0.mk (below_step (by repeat (first | (with_reducible first | exact HB.out | apply below_alloc | apply pw_below_drewN | apply below_drew1) | exact HB.out)) hb); have n1_ := Aside0.mk (hbox); have n2_ := Aside0.mk ((by rw [hg]; exact (below_size (by repeat (first | (with_reducible first | exact HB.out | apply below_alloc | apply pw_below_drewN | apply below_drew1) | exact HB.out))) : w.heap.size ≤ gb557)); have n3_ := Aside0.mk ((by rw [hg]; exact (below_size (by repeat (first | (with_reducible first | exact HB.out | apply below_alloc | apply pw_below_drewN | apply below_drew1) | exact HB.out))) : w.heap.size ≤ gb557)); clear HB; have HB := n0_; have BK557 := n1_; have GW557 := n2_; have GE557 := n3_; clear n0_ n1_ n2_ n3_; clear hb hbox hg; have hcz10_0 : w9.cell? ⟨gb557, 0, none⟩ = some (.slice A0_0 l0_0.length c0_0) := (blk_cell BK557.out 0).trans rfl; have hcz10_1 : w9.cell? ⟨gb557, 1, none⟩ = some (.slice A0_1 l0_1.length c0_1) := (blk_cell BK557.out 1).trans rfl; have hcz10_2 : w9.cell? ⟨gb557, 2, none⟩ = some (.int .i64 a0_2) := (blk_cell BK557.out 2).trans rfl; have hcz10_3 : w9.cell? ⟨gb557, 3, none⟩ = some (.slice A0_3 l0_3.length c0_3) := (blk_cell BK557.out 3).trans rfl; have hfz10_0 := blk_frozen BK557.out 0; have hfz10_1 := blk_frozen BK557.out 1; have hfz10_2 := blk_frozen BK557.out 2; have hfz10_3 := blk_frozen BK557.out 3) | ((with_reducible refine gate_callee (f := 35) rfl ?_); refine goesL_ (some 17) rfl rfl Try.func35 (by kernel_rfl) rfl #[.agg #[.slice A0_0 l0_0.length c0_0, .slice A0_1 l0_1.length c0_1, .int .i64 a0_2, .slice A0_3 l0_3.length c0_3]] rfl (by (try simp only [List.map_toArray, List.map_cons, List.map_nil]); first | done | rfl | (simp only [List.length_drop, List.length_take]; rfl)) ?_; (with_reducible refine (tensilelaw08_ready.calls k _ _ l0_0 _ _ l0_1 a0_2 _ _ l0_3 true _ ?side1 ?side2 ?side3 ?side4 ?side5 ?side6 A3.out).mono ?_); (case side1 => repeat (first | exact (Kd.C_below HR0_0.out HB.out) | (with_reducible refine Kd.C_alloc ?_ _) | (with_reducible refine Kd.C_drewN ?_ _) | (with_reducible refine Kd.C_drew ?_))); (case side2 => exact HC0_0.out); (case side3 => repeat (first | exact (Kd.C_below HR0_1.out HB.out) | (with_reducible refine Kd.C_alloc ?_ _) | (with_reducible refine Kd.C_drewN ?_ _) | (with_reducible refine Kd.C_drew ?_))); (case side4 => exact HC0_1.out); (case side5 => repeat (first | exact (Kd.C_below HR0_3.out HB.out) | (with_reducible refine Kd.C_alloc ?_ _) | (with_reducible refine Kd.C_drewN ?_ _) | (with_reducible refine Kd.C_drew ?_))); (case side6 => exact HC0_3.out); rintro e w11 ⟨rfl, hb⟩; refine ⟨_, rfl, ?_⟩; have n0_ := Aside0.mk (blk_below (g := gb557) (o := .cells #[.slice A0_0 l0_0.length c0_0, .slice A0_1 l0_1.length c0_1, .int .i64 a0_2, .slice A0_3 l0_3.length c0_3] 26 (0, 0)) (by (with_reducible repeat (first | refine blk_drewN ?_ _ | refine blk_drew ?_ | refine blk_alloc ?_ _)); exact BK557.out) hb); have n1_ := Aside0.mk (below_step (by repeat (first | (with_reducible first | exact HB.out | apply below_alloc | apply pw_below_drewN | apply below_drew1 | refine below_set ?_ GE557.out) | exact HB.out)) hb); clear BK557; clear HB; have BK557 := n0_; have HB := n1_; clear n0_ n1_; (try clear hb); (try clear hb2); (try clear hk); (try clear hi); have hcz12_0 : w11.cell? ⟨gb557, 0, none⟩ = some (.slice A0_0 l0_0.length c0_0) := (blk_cell BK557.out 0).trans rfl; have hcz12_1 : w11.cell? ⟨gb557, 1, none⟩ = some (.slice A0_1 l0_1.length c0_1) := (blk_cell BK557.out 1).trans rfl; have hcz12_2 : w11.cell? ⟨gb557, 2, none⟩ = some (.int .i64 a0_2) := (blk_cell BK557.out 2).trans rfl; have hcz12_3 : w11.cell? ⟨gb557, 3, none⟩ = some (.slice A0_3 l0_3.length c0_3) := (blk_cell BK557.out 3).trans rfl; have hfz12_0 := blk_frozen BK557.out 0; have hfz12_1 := blk_frozen BK557.out 1; have hfz12_2 := blk_frozen BK557.out 2; have hfz12_3 := blk_frozen BK557.out 3) | ((with_reducible refine gate_callee (f := 36) rfl ?_); refine goesL_ (some 22) rfl rfl Try.func36 (by kernel_rfl) rfl #[.agg #[.slice A0_0 l0_0.length c0_0, .slice A0_1 l0_1.length c0_1, .int .i64 a0_2, .slice A0_3 l0_3.length c0_3], .int .u8 a1] rfl (by (try simp only [List.map_toArray, List.map_cons, List.map_nil]); first | done | rfl | (simp only [List.length_drop, List.length_take]; rfl)) ?_; (with_reducible refine (tensilelaw08_chosen.calls k _ _ l0_0 _ _ l0_1 a0_2 _ _ l0_3 a1 t560 _ ?side1 ?side2 ?side3 ?side4 ?side5 ?side6 A5.out).mono ?_); (case side1 => repeat (first | exact (Kd.C_below HR0_0.out HB.out) | (with_reducible refine Kd.C_alloc ?_ _) | (with_reducible refine Kd.C_drewN ?_ _) | (with_reducible refine Kd.C_drew ?_))); (case side2 => exact HC0_0.out); (case side3 => repeat (first | exact (Kd.C_below HR0_1.out HB.out) | (with_reducible refine Kd.C_alloc ?_ _) | (with_reducible refine Kd.C_drewN ?_ _) | (with_reducible refine Kd.C_drew ?_))); (case side4 => exact HC0_1.out); (case side5 => repeat (first | exact (Kd.C_below HR0_3.out HB.out) | (with_reducible refine Kd.C_alloc ?_ _) | (with_reducible refine Kd.C_drewN ?_ _) | (with_reducible refine Kd.C_drew ?_))); (case side6 => exact HC0_3.out); rintro e w13 ⟨v561, rfl, ho0, hb⟩; refine ⟨_, rfl, ?_⟩; have n0_ := Aside0.mk (Kd.R_lower ho0 (below_size (by repeat (first | (with_reducible first | exact HB.out | apply below_alloc | apply pw_below_drewN | apply below_drew1 | refine below_set ?_ GE557.out) | exact HB.out)))); have n1_ := Aside0.mk (blk_below (g := gb557) (o := .cells #[.slice A0_0 l0_0.length c0_0, .slice A0_1 l0_1.length c0_1, .int .i64 a0_2, .slice A0_3 l0_3.length c0_3] 26 (0, 0)) (by (with_reducible repeat (first | refine blk_drewN ?_ _ | refine blk_drew ?_ | refine blk_alloc ?_ _)); exact BK557.out) hb); have n2_ := Aside0.mk (below_step (by repeat (first | (with_reducible first | exact HB.out | apply below_alloc | apply pw_below_drewN | apply below_drew1 | refine below_set ?_ GE557.out) | exact HB.out)) hb); clear BK557; clear HB; have HO562 := n0_; have BK557 := n1_; have HB := n2_; clear n0_ n1_ n2_; (try clear hb); (try clear hb2); (try clear hk); (try clear hi); (try clear ho0); have hcz14_0 : w13.cell? ⟨gb557, 0, none⟩ = some (.slice A0_0 l0_0.length c0_0) := (blk_cell BK557.out 0).trans rfl; have hcz14_1 : w13.cell? ⟨gb557, 1, none⟩ = some (.slice A0_1 l0_1.length c0_1) := (blk_cell BK557.out 1).trans rfl; have hcz14_2 : w13.cell? ⟨gb557, 2, none⟩ = some (.int .i64 a0_2) := (blk_cell BK557.out 2).trans rfl; have hcz14_3 : w13.cell? ⟨gb557, 3, none⟩ = some (.slice A0_3 l0_3.length c0_3) := (blk_cell BK557.out 3).trans rfl; have hfz14_0 := blk_frozen BK557.out 0; have hfz14_1 := blk_frozen BK557.out 1; have hfz14_2 := blk_frozen BK557.out 2; have hfz14_3 := blk_frozen BK557.out 3) | ((with_reducible refine gate_callee (f := 20) rfl ?_); refine goesL_ (some 25) rfl rfl Try.func20 (by kernel_rfl) rfl #[.agg #[.slice A0_0 l0_0.length c0_0, .slice A0_1 l0_1.length c0_1, .int .i64 a0_2, .slice A0_3 l0_3.length c0_3]] rfl (by (try simp only [List.map_toArray, List.map_cons, List.map_nil]); first | done | rfl | (simp only [List.length_drop, List.length_take]; rfl)) ?_; (with_reducible refine (tensilelaw08_Round.calls k _ _ l0_0 _ _ l0_1 a0_2 _ _ l0_3 t563 t566 t569 t570 _ ?side1 ?side2 ?side3 ?side4 ?side5 ?side6 A6.out).mono ?_); (case side1 => repeat (first | exact (Kd.C_below HR0_0.out HB.out) | (with_reducible refine Kd.C_alloc ?_ _) | (with_reducible refine Kd.C_drewN ?_ _) | (with_reducible refine Kd.C_drew ?_))); (case side2 => exact HC0_0.out); (case side3 => repeat (first | exact (Kd.C_below HR0_1.out HB.out) | (with_reducible refine Kd.C_alloc ?_ _) | (with_reducible refine Kd.C_drewN ?_ _) | (with_reducible refine Kd.C_drew ?_))); (case side4 => exact HC0_1.out); (case side5 => repeat (first | exact (Kd.C_below HR0_3.out HB.out) | (with_reducible refine Kd.C_alloc ?_ _) | (with_reducible refine Kd.C_drewN ?_ _) | (with_reducible refine Kd.C_drew ?_))); (case side6 => exact HC0_3.out); rintro e w15 ⟨v564, v567, v571, rfl, ho0, ho1, ho2, hb⟩; refine ⟨_, rfl, ?_⟩; have n0_ := Aside0.mk (Kd.R_elder' (by (with_reducible repeat (first | apply Kd.R_alloc | apply Kd.R_drewN | apply Kd.R_drew)); exact HO562.out) (Kd.R_base ho1) hb); have n1_ := Aside0.mk (Kd.R_lower ho0 (below_size (by repeat (first | (with_reducible first | exact HB.out | apply below_alloc | apply pw_below_drewN | apply below_drew1 | refine below_set ?_ GE557.out) | exact HB.out)))); have n2_ := Aside0.mk (Kd.R_lower (Kd.R_new' ho1 (Kd.R_lt (by (with_reducible repeat (first | apply Kd.R_alloc | apply Kd.R_drewN | apply Kd.R_drew)); exact HO562.out))) (below_size (by repeat (first | (with_reducible first | exact HB.out | apply below_alloc | apply pw_below_drewN | apply below_drew1 | refine below_set ?_ GE557.out) | exact HB.out)))); have n3_ := Aside0.mk (Kd.S_lower (Kd.S_new' ho2 (Kd.R_lt (by (with_reducible repeat (first | apply Kd.R_alloc | apply Kd.R_drewN | apply Kd.R_drew)); exact HO562.out))) (below_size (by repeat (first | (with_reducible first | exact HB.out | apply below_alloc | apply pw_below_drewN | apply below_drew1 | refine below_set ?_ GE557.out) | exact HB.out)))); have n4_ := Aside0.mk (blk_below (g := gb557) (o := .cells #[.slice A0_0 l0_0.length c0_0, .slice A0_1 l0_1.length c0_1, .int .i64 a0_2, .slice A0_3 l0_3.length c0_3] 26 (0, 0)) (by (with_reducible repeat (first | refine blk_drewN ?_ _ | refine blk_drew ?_ | refine blk_alloc ?_ _)); exact BK557.out) hb); have n5_ := Aside0.mk (below_step (by repeat (first | (with_reducible first | exact HB.out | apply below_alloc | apply pw_below_drewN | apply below_drew1 | refine below_set ?_ GE557.out) | exact HB.out)) hb); clear HO562; clear BK557; clear HB; have HO562 := n0_; have HO565 := n1_; have HO568 := n2_; have HO572 := n3_; have BK557 := n4_; have HB := n5_; clear n0_ n1_ n2_ n3_ n4_ n5_; (try clear hb); (try clear hb2); (try clear hk); (try clear hi); (try clear ho0); (try clear ho1); (try clear ho2); obtain ⟨Ao16, co16, eo16⟩ := Kd.R_slice HO562.out; subst eo16) | ((with_reducible refine gate_callee (f := 22) rfl ?_); refine goesL_ (some 27) rfl rfl Try.func22 (by kernel_rfl) rfl #[.slice Ao16 t560.length co16] rfl (by (try simp only [List.map_toArray, List.map_cons, List.map_nil]); first | done | rfl | (simp only [List.length_drop, List.length_take]; rfl)) ?_; (with_reducible refine (tensilelaw08_list.calls _ _ t560 t573 _ ?side1 ?side2 A7.out).mono ?_); (case side1 => repeat (first | exact (Kd.R_reads' HO562.out).2.2 | (with_reducible refine Kd.C_alloc ?_ _) | (with_reducible refine Kd.C_drewN ?_ _) | (with_reducible refine Kd.C_drew ?_))); (case side2 => exact (Kd.R_reads' HO562.out).2.1); rintro e w17 ⟨v574, rfl, ho0, hb⟩; refine ⟨_, rfl, ?_⟩; have n0_ := Aside0.mk (Kd.R_elder' (by (with_reducible repeat (first | apply Kd.R_alloc | apply Kd.R_drewN | apply Kd.R_drew)); exact HO562.out) (Kd.R_base ho0) hb); have n1_ := Aside0.mk (Kd.R_below (by (with_reducible repeat (first | apply Kd.R_alloc | apply Kd.R_drewN | apply Kd.R_drew)); exact HO565.out) hb); have n2_ := Aside0.mk (Kd.R_elder' (by (with_reducible repeat (first | apply Kd.R_alloc | apply Kd.R_drewN | apply Kd.R_drew)); exact HO568.out) (Kd.R_base ho0) hb); have n3_ := Aside0.mk (Kd.S_elder' (by (with_reducible repeat (first | apply Kd.S_alloc | apply Kd.S_drewN | apply Kd.S_drew)); exact HO572.out) (Kd.R_base ho0) hb); have n4_ := Aside0.mk (Kd.R_lower (Kd.R_new' (Kd.R_new' ho0 (Kd.R_lt (by (with_reducible repeat (first | apply Kd.R_alloc | apply Kd.R_drewN | apply Kd.R_drew)); exact HO562.out))) (Kd.R_lt (by (with_reducible repeat (first | apply Kd.R_alloc | apply Kd.R_drewN | apply Kd.R_drew)); exact HO568.out))) (below_size (by repeat (first | (with_reducible first | exact HB.out | apply below_alloc | apply pw_below_drewN | apply below_drew1 | refine below_set ?_ GE557.out) | exact HB.out)))); have n5_ := Aside0.mk (blk_below (g := gb557) (o := .cells #[.slice A0_0 l0_0.length c0_0, .slice A0_1 l0_1.length c0_1, .int .i64 a0_2, .slice A0_3 l0_3.length c0_3] 26 (0, 0)) (by (with_reducible repeat (first | refine blk_drewN ?_ _ | refine blk_drew ?_ | refine blk_alloc ?_ _)); exact BK557.out) hb); have n6_ := Aside0.mk (below_step (by repeat (first | (with_reducible first | exact HB.out | apply below_alloc | apply pw_below_drewN | apply below_drew1 | refine below_set ?_ GE557.out) | exact HB.out)) hb); clear HO562; clear HO565; clear HO568; clear HO572; clear BK557; clear HB; have HO562 := n0_; have HO565 := n1_; have HO568 := n2_; have HO572 := n3_; have HO575 := n4_; have BK557 := n5_; have HB := n6_; clear n0_ n1_ n2_ n3_ n4_ n5_ n6_; (try clear hb); (try clear hb2); (try clear hk); (try clear hi); (try clear ho0); obtain ⟨Ao18, co18, eo18⟩ := Kd.R_slice HO565.out; subst eo18; obtain ⟨Ao19, co19, eo19⟩ := Kd.R_slice HO568.out; subst eo19; obtain ⟨Ao20, co20, eo20⟩ := Kd.S_slice HO572.out; subst eo20; obtain ⟨Ao21, co21, eo21⟩ := Kd.R_slice HO575.out; subst eo21) | ((with_reducible refine gate_callee (f := 21) rfl ?_); refine goesL_ (some 28) rfl rfl Try.func21 (by kernel_rfl) rfl #[.agg #[.slice Ao18 t563.length co18, .slice Ao19 t566.length co19, .int .i64 t569, .slice Ao20 t570.length co20], .slice Ao21 t573.length co21] rfl (by (try simp only [List.map_toArray, List.map_cons, List.map_nil]); first | done | rfl | (simp only [List.length_drop, List.length_take]; rfl)) ?_; (with_reducible refine (round_Explains.calls _ _ t563 _ _ t566 t569 _ _ t570 _ _ t573 t576 t577 _ ?side1 ?side2 ?side3 ?side4 ?side5 ?side6 ?side7 ?side8 A8.out).mono ?_); (case side1 => repeat (first | exact (Kd.R_reads' HO565.out).2.2 | (with_reducible refine Kd.C_alloc ?_ _) | (with_reducible refine Kd.C_drewN ?_ _) | (with_reducible refine Kd.C_drew ?_))); (case side2 => exact (Kd.R_reads' HO565.out).2.1); (case side3 => repeat (first | exact (Kd.R_reads' HO568.out).2.2 | (with_reducible refine Kd.C_alloc ?_ _) | (with_reducible refine Kd.C_drewN ?_ _) | (with_reducible refine Kd.C_drew ?_))); (case side4 => exact (Kd.R_reads' HO568.out).2.1); (case side5 => repeat (first | exact (Kd.S_reads' HO572.out).2.2 | (with_reducible refine Kd.C_alloc ?_ _) | (with_reducible refine Kd.C_drewN ?_ _) | (with_reducible refine Kd.C_drew ?_))); (case side6 => exact (Kd.S_reads' HO572.out).2.1); (case side7 => repeat (first | exact (Kd.R_reads' HO575.out).2.2 | (with_reducible refine Kd.C_alloc ?_ _) | (with_reducible refine Kd.C_drewN ?_ _) | (with_reducible refine Kd.C_drew ?_))); (case side8 => exact (Kd.R_reads' HO575.out).2.1); rintro e w22 ⟨rfl, hb⟩; refine ⟨_, rfl, ?_⟩; have n0_ := Aside0.mk (Kd.R_below (by (with_reducible repeat (first | apply Kd.R_alloc | apply Kd.R_drewN | apply Kd.R_drew)); exact HO562.out) hb); have n1_ := Aside0.mk (Kd.R_below (by (with_reducible repeat (first | apply Kd.R_alloc | apply Kd.R_drewN | apply Kd.R_drew)); exact HO565.out) hb); have n2_ := Aside0.mk (Kd.R_below (by (with_reducible repeat (first | apply Kd.R_alloc | apply Kd.R_drewN | apply Kd.R_drew)); exact HO568.out) hb); have n3_ := Aside0.mk (Kd.S_below (by (with_reducible repeat (first | apply Kd.S_alloc | apply Kd.S_drewN | apply Kd.S_drew)); exact HO572.out) hb); have n4_ := Aside0.mk (Kd.R_below (by (with_reducible repeat (first | apply Kd.R_alloc | apply Kd.R_drewN | apply Kd.R_drew)); exact HO575.out) hb); have n5_ := Aside0.mk (blk_below (g := gb557) (o := .cells #[.slice A0_0 l0_0.length c0_0, .slice A0_1 l0_1.length c0_1, .int .i64 a0_2, .slice A0_3 l0_3.length c0_3] 26 (0, 0)) (by (with_reducible repeat (first | refine blk_drewN ?_ _ | refine blk_drew ?_ | refine blk_alloc ?_ _)); exact BK557.out) hb); have n6_ := Aside0.mk (below_step (by repeat (first | (with_reducible first | exact HB.out | apply below_alloc | apply pw_below_drewN | apply below_drew1 | refine below_set ?_ GE557.out) | exact HB.out)) hb); clear HO562; clear HO565; clear HO568; clear HO572; clear HO575; clear BK557; clear HB; have HO562 := n0_; have HO565 := n1_; have HO568 := n2_; have HO572 := n3_; have HO575 := n4_; have BK557 := n5_; have HB := n6_; clear n0_ n1_ n2_ n3_ n4_ n5_ n6_; (try clear hb); (try clear hb2); (try clear hk); (try clear hi)))
  go_loopg [8, 9] k (fun kq v8 v9 w' => ∃ (x5_1 : List Int) (x8_1 : Bool) (x9_1 : Int), v8 = .bool x8_1 ∧ v9 = .int .i64 x9_1 ∧ Aside0 (tensilelaw08_RoundApart.l0 kq x5_1 t576 t577 x8_1 x9_1 l0_0 l0_1 a0_2 l0_3 = some r) ∧ Aside0 (kq ≤ k) ∧ Aside0 (Kd.R (Kd.int .i64) 3 w' w.heap.size (fun _ => True) (.slice Ao16 t560.length co16) x5_1) ∧ Aside0 (w'.heap[gb557]? = some (.cells #[(.slice A0_0 l0_0.length c0_0), (.slice A0_1 l0_1.length c0_1), .int .i64 a0_2, (.slice A0_3 l0_3.length c0_3)] 26 (0, 0))) ∧ Aside0 (Below w.heap.size w w'))
  case atStart => exact ⟨(t560), (true), (0), (by first | rfl | (simp; done) | (simp [*]; done)), (by first | rfl | (simp; done) | (simp [*]; done)), H', ⟨Nat.le_refl _⟩, ⟨by (with_reducible repeat (first | apply Kd.R_alloc | apply Kd.R_drewN | apply Kd.R_drew)); exact Kd.R_mono HO562.out (fun _ hk => trivial)⟩, ⟨by (with_reducible repeat (first | refine blk_drewN ?_ _ | refine blk_drew ?_ | refine blk_alloc ?_ _)); exact BK557.out⟩, ⟨by repeat (first | (with_reducible first | exact HB.out | apply below_alloc | apply pw_below_drewN | apply below_drew1 | refine below_set ?_ GE557.out) | exact HB.out)⟩⟩
  case round =>
   clear H'
   try clear c1
   try clear c2
   try clear p2
   try clear c3
   try clear c4
   try clear c10
   try clear c20
   try clear c21
   try clear c22
   try clear hcz10_0
   try clear hcz10_1
   try clear hcz10_2
   try clear hcz10_3
   try clear hcz12_0
   try clear hcz12_1
   try clear hcz12_2
   try clear hcz12_3
   try clear hcz14_0
   try clear hcz14_1
   try clear hcz14_2
   try clear hcz14_3
   try clear hfz10_0
   try clear hfz10_1
   try clear hfz10_2
   try clear hfz10_3
   try clear hfz12_0
   try clear hfz12_1
   try clear hfz12_2
   try clear hfz12_3
   try clear hfz14_0
   try clear hfz14_1
   try clear hfz14_2
   try clear hfz14_3
   obtain ⟨x5_1, x8_1, x9_1, rfl, rfl, HA, HK1, HO_5, BK557, HB⟩ := hrel
   have hl5_1 := (Kd.R_reads' HO_5.out).1
   rw [hl5_1] at HO_5
   (try simp only [hl5_1])
   (try simp only [hl5_1] at BK557)
   cases gk with
   | zero => exact absurd HA.out (by simp [tensilelaw08_RoundApart.l0])
   | succ k1 =>
    have H := HA.out
    clear HA
    simp only [tensilelaw08_RoundApart.l0] at H
    by_cases c23 : x9_1 < (l0_0.length : Int)
    ·rw [if_pos c23] at H
     have c23b0 : decide (x9_1 < (l0_0.length : Int)) = true := decide_eq_true c23
     clear c23
     have H' := Aside0.mk H
     clear H
     have hcz24_0 : wr.cell? ⟨gb557, 0, none⟩ = some (.slice A0_0 l0_0.length c0_0) := (blk_cell BK557.out 0).trans rfl
     have hcz24_1 : wr.cell? ⟨gb557, 1, none⟩ = some (.slice A0_1 l0_1.length c0_1) := (blk_cell BK557.out 1).trans rfl
     have hcz24_2 : wr.cell? ⟨gb557, 2, none⟩ = some (.int .i64 a0_2) := (blk_cell BK557.out 2).trans rfl
     have hcz24_3 : wr.cell? ⟨gb557, 3, none⟩ = some (.slice A0_3 l0_3.length c0_3) := (blk_cell BK557.out 3).trans rfl
     have hfz24_0 := blk_frozen BK557.out 0
     have hfz24_1 := blk_frozen BK557.out 1
     have hfz24_2 := blk_frozen BK557.out 2
     have hfz24_3 := blk_frozen BK557.out 3
     go_wp2_with (first | ((with_reducible refine gate_dst (N := 10) rfl ?_); refine box_event ?hg (N := 10) ?hd (cs := #[.slice none 0 0, .slice none 0 0, .int .i64 0, .slice none 0 0]) (t := 26) ?hr ?_; (case hd => rfl); (case hg => rfl); (case hr => first | (go_simp; done) | (go_simp; rfl)); intro gb579 hg w25 hbox hb; have n0_ := Aside0.mk (Kd.R_below (by (with_reducible repeat (first | apply Kd.R_alloc | apply Kd.R_drewN | apply Kd.R_drew)); exact HO_5.out) hb); have n1_ := Aside0.mk (blk_below (g := gb557) (o := .cells #[.slice A0_0 l0_0.length c0_0, .slice A0_1 l0_1.length c0_1, .int .i64 a0_2, .slice A0_3 l0_3.length c0_3] 26 (0, 0)) (by (with_reducible repeat (first | refine blk_drewN ?_ _ | refine blk_drew ?_ | refine blk_alloc ?_ _)); exact BK557.out) hb); have n2_ := Aside0.mk (below_step (by repeat (first | (with_reducible first | exact HB.out | apply below_alloc | apply pw_below_drewN | apply below_drew1 | refine below_set ?_ GE557.out) | exact HB.out)) hb); have n3_ := Aside0.mk (hbox); have n4_ := Aside0.mk ((by rw [hg]; exact (below_size (by repeat (first | (with_reducible first | exact HB.out | apply below_alloc | apply pw_below_drewN | apply below_drew1 | refine below_set ?_ GE557.out) | exact HB.out))) : w.heap.size ≤ gb579)); have n5_ := Aside0.mk ((by rw [hg]; exact (below_size (by repeat (first | (with_reducible first | exact HB.out | apply below_alloc | apply pw_below_drewN | apply below_drew1 | refine below_set ?_ GE557.out) | exact HB.out))) : w.heap.size ≤ gb579)); have n6_ := Aside0.mk ((by rw [hg]; exact Nat.ne_of_lt (blk_lt (g := gb557) (o := .cells #[.slice A0_0 l0_0.length c0_0, .slice A0_1 l0_1.length c0_1, .int .i64 a0_2, .slice A0_3 l0_3.length c0_3] 26 (0, 0)) (by (with_reducible repeat (first | refine blk_drewN ?_ _ | refine blk_drew ?_ | refine blk_alloc ?_ _)); exact BK557.out)) : gb557 ≠ gb579)); have n7_ := Aside0.mk ((by rw [hg]; exact Nat.ne_of_gt (blk_lt (g := gb557) (o := .cells #[.slice A0_0 l0_0.length c0_0, .slice A0_1 l0_1.length c0_1, .int .i64 a0_2, .slice A0_3 l0_3.length c0_3] 26 (0, 0)) (by (with_reducible repeat (first | refine blk_drewN ?_ _ | refine blk_drew ?_ | refine blk_alloc ?_ _)); exact BK557.out)) : gb579 ≠ gb557)); clear HO_5; clear BK557; clear HB; have HO_5 := n0_; have BK557 := n1_; have HB := n2_; have BK579 := n3_; have GW579 := n4_; have GE579 := n5_; have NB557_579 := n6_; have NB579_557 := n7_; clear n0_ n1_ n2_ n3_ n4_ n5_ n6_ n7_; clear hb hbox hg; have hnb26 := NB579_557.out; have hnc26 := NB557_579.out; have hcz27_0 : w25.cell? ⟨gb579, 0, none⟩ = some (.slice none 0 0) := (blk_cell BK579.out 0).trans rfl; have hcz27_1 : w25.cell? ⟨gb579, 1, none⟩ = some (.slice none 0 0) := (blk_cell BK579.out 1).trans rfl; have hcz27_2 : w25.cell? ⟨gb579, 2, none⟩ = some (.int .i64 0) := (blk_cell BK579.out 2).trans rfl; have hcz27_3 : w25.cell? ⟨gb579, 3, none⟩ = some (.slice none 0 0) := (blk_cell BK579.out 3).trans rfl; have hfz27_0 := blk_frozen BK579.out 0; have hfz27_1 := blk_frozen BK579.out 1; have hfz27_2 := blk_frozen BK579.out 2; have hfz27_3 := blk_frozen BK579.out 3))
     go_loopg [11] k1 (fun kq v11 w' => ∃ (x5_2 : List Int) (x11_2 : Int) (x580003_2 : List (S62)) (u580003 : Value), v11 = .int .i64 x11_2 ∧ Aside0 (tensilelaw08_RoundApart.l1 kq x5_2 t576 t577 x8_1 x9_1 x11_2 l0_0 l0_1 a0_2 l0_3 l0_0 l0_1 a0_2 x580003_2 = some r) ∧ Aside0 (kq ≤ k1) ∧ Aside0 (Kd.R (Kd.int .i64) 3 w' w.heap.size (fun _ => True) (.slice Ao16 x5_1.length co16) x5_2) ∧ Aside0 (Kd.S k62 62 w' w.heap.size (fun k_ => some k_ ≠ ((.slice Ao16 x5_1.length co16) : Value).ownBlock) u580003 x580003_2) ∧ Aside0 (w'.heap[gb557]? = some (.cells #[(.slice A0_0 l0_0.length c0_0), (.slice A0_1 l0_1.length c0_1), .int .i64 a0_2, (.slice A0_3 l0_3.length c0_3)] 26 (0, 0))) ∧ Aside0 (w'.heap[gb579]? = some (.cells #[(.slice A0_0 l0_0.length c0_0), (.slice A0_1 l0_1.length c0_1), .int .i64 a0_2, u580003] 26 (0, 0))) ∧ Aside0 (Below w.heap.size w w'))
     case atStart => exact ⟨(x5_1), (0), (([] : List (S62))), (.slice none 0 0), (by first | rfl | (simp; done) | (simp [*]; done)), H', ⟨Nat.le_refl _⟩, ⟨by (try simp only [hl5_1]); (with_reducible repeat (first | apply Kd.R_alloc | apply Kd.R_drewN | apply Kd.R_drew)); exact Kd.R_mono (Kd.R_far (p := ⟨gb579, 3, none⟩) (Kd.R_far (p := ⟨gb579, 3, none⟩) (Kd.R_far (p := ⟨gb579, 2, none⟩) (Kd.R_far (p := ⟨gb579, 1, none⟩) (Kd.R_far (p := ⟨gb579, 0, none⟩) (Kd.R_types HO_5.out BK579.out (by decide)) (fun _ hk => hk.2) (.slice A0_0 l0_0.length c0_0)) (fun _ hk => hk.2) (.slice A0_1 l0_1.length c0_1)) (fun _ hk => hk.2) (.int .i64 a0_2)) (fun _ hk => hk.2) (.slice A0_3 l0_3.length c0_3)) (fun _ hk => hk.2) (.slice none 0 0)) (fun _ hk => trivial)⟩, ⟨by (try simp only [hl5_1]); first | exact Kd.S_nil _ _ _ _ _ | exact Kd.N_nil _ _ _ _ _ | exact Kd.V_nil _ _ _ _ _ | exact Kd.Q_nil _ _ _ _ _ | exact Kd.R_nil _ _ _ _ _⟩, ⟨by (try simp only [hl5_1]); (with_reducible repeat (first | refine blk_drewN ?_ _ | refine blk_drew ?_ | refine blk_alloc ?_ _)); refine blk_far ?_ NB557_579.out _; (with_reducible repeat (first | refine blk_drewN ?_ _ | refine blk_drew ?_ | refine blk_alloc ?_ _)); refine blk_far ?_ NB557_579.out _; (with_reducible repeat (first | refine blk_drewN ?_ _ | refine blk_drew ?_ | refine blk_alloc ?_ _)); refine blk_far ?_ NB557_579.out _; (with_reducible repeat (first | refine blk_drewN ?_ _ | refine blk_drew ?_ | refine blk_alloc ?_ _)); refine blk_far ?_ NB557_579.out _; (with_reducible repeat (first | refine blk_drewN ?_ _ | refine blk_drew ?_ | refine blk_alloc ?_ _)); refine blk_far ?_ NB557_579.out _; (with_reducible repeat (first | refine blk_drewN ?_ _ | refine blk_drew ?_ | refine blk_alloc ?_ _)); exact BK557.out⟩, ⟨by (try simp only [hl5_1]); (with_reducible repeat (first | refine blk_drewN ?_ _ | refine blk_drew ?_ | refine blk_alloc ?_ _)); refine blk_put (cs := #[.slice A0_0 l0_0.length c0_0, .slice A0_1 l0_1.length c0_1, .int .i64 a0_2, .slice A0_3 l0_3.length c0_3]) ?_ 3 _ rfl; (with_reducible repeat (first | refine blk_drewN ?_ _ | refine blk_drew ?_ | refine blk_alloc ?_ _)); refine blk_put (cs := #[.slice A0_0 l0_0.length c0_0, .slice A0_1 l0_1.length c0_1, .int .i64 a0_2, .slice none 0 0]) ?_ 3 _ rfl; (with_reducible repeat (first | refine blk_drewN ?_ _ | refine blk_drew ?_ | refine blk_alloc ?_ _)); refine blk_put (cs := #[.slice A0_0 l0_0.length c0_0, .slice A0_1 l0_1.length c0_1, .int .i64 0, .slice none 0 0]) ?_ 2 _ rfl; (with_reducible repeat (first | refine blk_drewN ?_ _ | refine blk_drew ?_ | refine blk_alloc ?_ _)); refine blk_put (cs := #[.slice A0_0 l0_0.length c0_0, .slice none 0 0, .int .i64 0, .slice none 0 0]) ?_ 1 _ rfl; (with_reducible repeat (first | refine blk_drewN ?_ _ | refine blk_drew ?_ | refine blk_alloc ?_ _)); refine blk_put (cs := #[.slice none 0 0, .slice none 0 0, .int .i64 0, .slice none 0 0]) ?_ 0 _ rfl; (with_reducible repeat (first | refine blk_drewN ?_ _ | refine blk_drew ?_ | refine blk_alloc ?_ _)); exact BK579.out⟩, ⟨by repeat (first | (with_reducible first | exact HB.out | apply below_alloc | apply pw_below_drewN | apply below_drew1 | refine below_set ?_ GE557.out | refine below_set ?_ GE579.out) | exact HB.out)⟩⟩
     case round =>
      clear H'
      try clear c1
      try clear c2
      try clear p2
      try clear c3
      try clear c4
      try clear c10
      try clear c20
      try clear c21
      try clear c22
      try clear c23
      try clear c23b0
      try clear c26
      try clear hcz10_0
      try clear hcz10_1
      try clear hcz10_2
      try clear hcz10_3
      try clear hcz12_0
      try clear hcz12_1
      try clear hcz12_2
      try clear hcz12_3
      try clear hcz14_0
      try clear hcz14_1
      try clear hcz14_2
      try clear hcz14_3
      try clear hcz24_0
      try clear hcz24_1
      try clear hcz24_2
      try clear hcz24_3
      try clear hcz27_0
      try clear hcz27_1
      try clear hcz27_2
      try clear hcz27_3
      try clear hfz10_0
      try clear hfz10_1
      try clear hfz10_2
      try clear hfz10_3
      try clear hfz12_0
      try clear hfz12_1
      try clear hfz12_2
      try clear hfz12_3
      try clear hfz14_0
      try clear hfz14_1
      try clear hfz14_2
      try clear hfz14_3
      try clear hfz24_0
      try clear hfz24_1
      try clear hfz24_2
      try clear hfz24_3
      try clear hfz27_0
      try clear hfz27_1
      try clear hfz27_2
      try clear hfz27_3
      try clear p2
      obtain ⟨x5_2, x11_2, x580003_2, u580003, rfl, HA, HK2, HO_5, HO_580003, BK557, BK579, HB⟩ := hrel
      have hl5_2 := (Kd.R_reads' HO_5.out).1
      rw [hl5_2] at HO_5
      (try simp only [hl5_2])
      (try simp only [hl5_2] at BK557)
      (try simp only [hl5_2] at BK579)
      (try simp only [hl5_2] at HO_580003)
      cases gk with
      | zero => exact absurd HA.out (by simp [tensilelaw08_RoundApart.l1])
      | succ k2 =>
       have H := HA.out
       clear HA
       simp only [tensilelaw08_RoundApart.l1] at H
       by_cases c28 : x11_2 < (l0_3.length : Int)
       ·rw [if_pos c28] at H
        have c28b0 : decide (x11_2 < (l0_3.length : Int)) = true := decide_eq_true c28
        clear c28
        by_cases c29 : 0 ≤ x11_2
        ·rw [if_pos c29] at H
         have c29b0 : decide (0 ≤ x11_2) = true := decide_eq_true c29
         clear c29
         replace H := Option.bind_eq_some_iff.mp H
         obtain ⟨t582, A300, H⟩ := H
         replace H : (tensilelaw08_RoundApart.l2 k2 x5_2 t576 t577 x8_1 x9_1 x11_2 0 l0_0 l0_1 a0_2 l0_3 l0_0 l0_1 a0_2 x580003_2 ((rd_T62 l0_3 x11_2).f0) t582) = some r := H
         have A30 := Aside0.mk A300
         clear A300
         have H' := Aside0.mk H
         clear H
         have hnb31 := NB557_579.out
         have hnc31 := NB579_557.out
         have hcz32_0 : wr.cell? ⟨gb557, 0, none⟩ = some (.slice A0_0 l0_0.length c0_0) := (blk_cell BK557.out 0).trans rfl
         have hcz32_1 : wr.cell? ⟨gb557, 1, none⟩ = some (.slice A0_1 l0_1.length c0_1) := (blk_cell BK557.out 1).trans rfl
         have hcz32_2 : wr.cell? ⟨gb557, 2, none⟩ = some (.int .i64 a0_2) := (blk_cell BK557.out 2).trans rfl
         have hcz32_3 : wr.cell? ⟨gb557, 3, none⟩ = some (.slice A0_3 l0_3.length c0_3) := (blk_cell BK557.out 3).trans rfl
         have hfz32_0 := blk_frozen BK557.out 0
         have hfz32_1 := blk_frozen BK557.out 1
         have hfz32_2 := blk_frozen BK557.out 2
         have hfz32_3 := blk_frozen BK557.out 3
         try go_wp2
         have n0_ := Aside0.mk (Kd.R_drew HO_5.out)
         have n1_ := Aside0.mk (Kd.S_drew HO_580003.out)
         have n2_ := Aside0.mk (blk_drew BK557.out)
         have n3_ := Aside0.mk (blk_drew BK579.out)
         have n4_ := Aside0.mk (below_drew1 HB.out)
         clear HO_5
         clear HO_580003
         clear BK557
         clear BK579
         clear HB
         have HO_5 := n0_
         have HO_580003 := n1_
         have BK557 := n2_
         have BK579 := n3_
         have HB := n4_
         clear n0_ n1_ n2_ n3_ n4_
         have p580 : 0 ≤ (x11_2 : Int) := of_decide_eq_true (by first | (with_reducible assumption) | assumption)
         have q580 : x11_2 < (l0_3.length : Int) := of_decide_eq_true (by first | (with_reducible assumption) | assumption)
         obtain ⟨ad580, A580_1, c580_1, e580, hx580_0, hx580_1, hl580_1, hi580_1⟩ := at_T62 HR0_3.out x11_2 p580 q580
         have hw580_1 := hx580_1
         have hw580_0 := hx580_0
         cases e580
         replace hx580_0 := (HB.out.cell (World.block_lt_of_cell? w _ hx580_0)).trans hx580_0
         replace hx580_1 := (HB.out.cell (World.block_lt_of_cell? w _ hx580_1)).trans hx580_1
         have HR580_1 := Aside0.mk hi580_1
         have HC580_1 := Aside0.mk hl580_1
         clear hi580_1 hl580_1
         replace p580 := eq_true p580
         replace q580 := eq_true q580
         have p581 : 0 ≤ (x11_2 : Int) := of_decide_eq_true (by first | (with_reducible assumption) | assumption)
         have q581 : x11_2 < (l0_3.length : Int) := of_decide_eq_true (by first | (with_reducible assumption) | assumption)
         obtain ⟨ad581, A581_1, c581_1, e581, hx581_0, hx581_1, hl581_1, hi581_1⟩ := at_T62 HR0_3.out x11_2 p581 q581
         have hw581_1 := hx581_1
         have hw581_0 := hx581_0
         obtain rfl : ad580 = ad581 := (by injection e581)
         replace hx581_0 := (HB.out.cell (World.block_lt_of_cell? w _ hx581_0)).trans hx581_0
         replace hx581_1 := (HB.out.cell (World.block_lt_of_cell? w _ hx581_1)).trans hx581_1
         have HR581_1 := Aside0.mk hi581_1
         have HC581_1 := Aside0.mk hl581_1
         clear hi581_1 hl581_1
         replace p581 := eq_true p581
         replace q581 := eq_true q581
         have ea_ := Option.some.inj (hx580_1.symm.trans hx581_1)
         injection ea_ with ea_ en_ ec_
         subst ea_
         subst ec_
         clear en_
         refine start_ (n := 16) (S := fun w' => w'.cell? ⟨gb557, 0, none⟩ = some (.slice A0_0 l0_0.length c0_0) ∧ w'.cell? ⟨gb557, 1, none⟩ = some (.slice A0_1 l0_1.length c0_1) ∧ w'.cell? ⟨gb557, 2, none⟩ = some (.int .i64 a0_2) ∧ w'.cell? ⟨gb557, 3, none⟩ = some (.slice (some ad580) l0_3.length c0_3) ∧ w'.cell? (ad580.add ((x11_2).toNat * 2)) = some (.int .i64 ((rd_T62 l0_3 x11_2).f0)) ∧ w'.cell? ⟨(ad580.add ((x11_2).toNat * 2)).block, (ad580.add ((x11_2).toNat * 2)).off + 1, none⟩ = some (.slice A580_1 ((rd_T62 l0_3 x11_2).f1).length c580_1) ∧ w'.cell? (ad580.add ((x11_2).toNat * 2)) = some (.int .i64 ((rd_T62 l0_3 x11_2).f0)) ∧ w'.cell? ⟨(ad580.add ((x11_2).toNat * 2)).block, (ad580.add ((x11_2).toNat * 2)).off + 1, none⟩ = some (.slice A580_1 ((rd_T62 l0_3 x11_2).f1).length c580_1)) (ds := []) #[false, false, false, false, false, false, false, false, false, false, false, false, false, false, false, false] (by kernel_rfl) rfl rfl ⟨(blk_cell BK557.out 0).trans rfl, (blk_cell BK557.out 1).trans rfl, (blk_cell BK557.out 2).trans rfl, (blk_cell BK557.out 3).trans rfl, ((HB.out.cell (World.block_lt_of_cell? w _ hw580_0)).trans hw580_0), ((HB.out.cell (World.block_lt_of_cell? w _ hw580_1)).trans hw580_1), ((HB.out.cell (World.block_lt_of_cell? w _ hw581_0)).trans hw581_0), ((HB.out.cell (World.block_lt_of_cell? w _ hw581_1)).trans hw581_1)⟩ (fun hHeld => ?_); refine with_tabW tensilelaw08_RoundApart.tab14 tensilelaw08_RoundApart.bits14 (fun HT_ HW_ => ?_)
         generalize wr.drew = w33 at HO_5 HO_580003 BK557 BK579 HB HR580_1 HR581_1 hx580_0 hx580_1 hx581_0 hx581_1 hHeld ⊢
         refine pure_ (i := 0) (N := some 47) (v := ?_) (a' := ?_) #[true, false, false, false, false, false, false, false, false, false, false, false, false, false, false, false] rfl rfl (any_of HT_.out (by kernel_rfl)) (fun _ _ _ h => h) (Or.inl ⟨by rfl, ?_⟩) ?_ ?_
         rotate_left
         ·intro w'
          go_simp
          with_reducible rfl
         rotate_left
         ·simp only [Act.put, List.setIfInBounds_toArray, List.set_cons_zero, List.set_cons_succ, i64_w, i32_w]
          rfl
         refine pure_ (i := 2) (N := some 49) (v := ?_) (a' := ?_) #[true, false, true, false, false, false, false, false, false, false, false, false, false, false, false, false] rfl rfl (any_of HT_.out (by kernel_rfl)) (fun _ _ _ h => h) (Or.inl ⟨by rfl, ?_⟩) ?_ ?_
         rotate_left
         ·intro w'
          go_simp
          with_reducible rfl
         rotate_left
         ·simp only [Act.put, List.setIfInBounds_toArray, List.set_cons_zero, List.set_cons_succ, i64_w, i32_w]
          rfl
         refine pure_ (i := 6) (N := some 53) (v := ?_) (a' := ?_) #[true, false, true, false, false, false, true, false, false, false, false, false, false, false, false, false] rfl rfl (any_of HT_.out (by kernel_rfl)) (fun _ _ _ h => h) (Or.inl ⟨by rfl, ?_⟩) ?_ ?_
         rotate_left
         ·intro w'
          go_simp
          with_reducible rfl
         rotate_left
         ·simp only [Act.put, List.setIfInBounds_toArray, List.set_cons_zero, List.set_cons_succ, i64_w, i32_w]
          rfl
         refine pure_ (i := 8) (N := some 55) (v := ?_) (a' := ?_) #[true, false, true, false, false, false, true, false, true, false, false, false, false, false, false, false] rfl rfl (any_of HT_.out (by kernel_rfl)) (fun _ _ _ h => h) (Or.inl ⟨by rfl, ?_⟩) ?_ ?_
         rotate_left
         ·intro w'
          go_simp
          with_reducible rfl
         rotate_left
         ·simp only [Act.put, List.setIfInBounds_toArray, List.set_cons_zero, List.set_cons_succ, i64_w, i32_w]
          rfl
         refine take_ (i := 1) (N := some 48) (v := ?_) (a' := ?_) #[true, true, true, false, false, false, true, false, true, false, false, false, false, false, false, false] rfl rfl (take_ofW HT_.out HW_.out (by kernel_rfl)) (fun _ _ _ h => h) (Or.inl ⟨by rfl, ?_⟩) hHeld ?_ ?_
         rotate_left
         ·rintro w' ⟨s0, s1, s2, s3, s4, s5, s6, s7⟩
          go_simp
          with_reducible rfl
         rotate_left
         ·simp only [Act.put, List.setIfInBounds_toArray, List.set_cons_zero, List.set_cons_succ, i64_w, i32_w]
          rfl
         refine pure_ (i := 3) (N := some 50) (v := ?_) (a' := ?_) #[true, true, true, true, false, false, true, false, true, false, false, false, false, false, false, false] rfl rfl (any_of HT_.out (by kernel_rfl)) (fun _ _ _ h => h) (Or.inl ⟨by rfl, ?_⟩) ?_ ?_
         rotate_left
         ·intro w'
          go_simp
          with_reducible rfl
         rotate_left
         ·simp only [Act.put, List.setIfInBounds_toArray, List.set_cons_zero, List.set_cons_succ, i64_w, i32_w]
          rfl
         refine pure_ (i := 4) (N := some 51) (v := ?_) (a' := ?_) #[true, true, true, true, true, false, true, false, true, false, false, false, false, false, false, false] rfl rfl (any_of HT_.out (by kernel_rfl)) (fun _ _ _ h => h) (Or.inl ⟨by rfl, ?_⟩) ?_ ?_
         rotate_left
         ·intro w'
          go_simp
          with_reducible rfl
         rotate_left
         ·simp only [Act.put, List.setIfInBounds_toArray, List.set_cons_zero, List.set_cons_succ, i64_w, i32_w]
          rfl
         refine take_ (i := 5) (N := some 52) (v := ?_) (a' := ?_) #[true, true, true, true, true, true, true, false, true, false, false, false, false, false, false, false] rfl rfl (take_ofW HT_.out HW_.out (by kernel_rfl)) (fun _ _ _ h => h) (Or.inl ⟨by rfl, ?_⟩) hHeld ?_ ?_
         rotate_left
         ·rintro w' ⟨s0, s1, s2, s3, s4, s5, s6, s7⟩
          go_simp
          with_reducible rfl
         rotate_left
         ·simp only [Act.put, List.setIfInBounds_toArray, List.set_cons_zero, List.set_cons_succ, i64_w, i32_w]
          rfl
         refine take_ (i := 7) (N := some 54) (v := ?_) (a' := ?_) #[true, true, true, true, true, true, true, true, true, false, false, false, false, false, false, false] rfl rfl (take_ofW HT_.out HW_.out (by kernel_rfl)) (fun _ _ _ h => h) (Or.inl ⟨by rfl, ?_⟩) hHeld ?_ ?_
         rotate_left
         ·rintro w' ⟨s0, s1, s2, s3, s4, s5, s6, s7⟩
          go_simp
          with_reducible rfl
         rotate_left
         ·simp only [Act.put, List.setIfInBounds_toArray, List.set_cons_zero, List.set_cons_succ, i64_w, i32_w]
          rfl
         refine pure_ (i := 9) (N := some 56) (v := ?_) (a' := ?_) #[true, true, true, true, true, true, true, true, true, true, false, false, false, false, false, false] rfl rfl (any_of HT_.out (by kernel_rfl)) (fun _ _ _ h => h) (Or.inl ⟨by rfl, ?_⟩) ?_ ?_
         rotate_left
         ·intro w'
          go_simp
          with_reducible rfl
         rotate_left
         ·simp only [Act.put, List.setIfInBounds_toArray, List.set_cons_zero, List.set_cons_succ, i64_w, i32_w]
          rfl
         refine pure_ (i := 10) (N := some 57) (v := ?_) (a' := ?_) #[true, true, true, true, true, true, true, true, true, true, true, false, false, false, false, false] rfl rfl (any_of HT_.out (by kernel_rfl)) (fun _ _ _ h => h) (Or.inl ⟨by rfl, ?_⟩) ?_ ?_
         rotate_left
         ·intro w'
          go_simp
          with_reducible rfl
         rotate_left
         ·simp only [Act.put, List.setIfInBounds_toArray, List.set_cons_zero, List.set_cons_succ, i64_w, i32_w]
          rfl
         refine take_ (i := 11) (N := some 58) (v := ?_) (a' := ?_) #[true, true, true, true, true, true, true, true, true, true, true, true, false, false, false, false] rfl rfl (take_ofW HT_.out HW_.out (by kernel_rfl)) (fun _ _ _ h => h) (Or.inl ⟨by rfl, ?_⟩) hHeld ?_ ?_
         rotate_left
         ·rintro w' ⟨s0, s1, s2, s3, s4, s5, s6, s7⟩
          go_simp
          with_reducible rfl
         rotate_left
         ·simp only [Act.put, List.setIfInBounds_toArray, List.set_cons_zero, List.set_cons_succ, i64_w, i32_w]
          rfl
         refine join_ (σ := Value × Nat) 1 #[true, true, true, true, true, true, true, true, true, true, true, true, true, true, true, false] (fun s_ => [(59, s_.1), (12, .pointer (some ⟨s_.2, 0, none⟩)), (60, .agg #[.int .i64 ((rd_T62 l0_3 x11_2).f0), s_.1])]) (fun s_ w' => (w'.cell? ⟨gb557, 0, none⟩ = some (.slice A0_0 l0_0.length c0_0) ∧ w'.cell? ⟨gb557, 1, none⟩ = some (.slice A0_1 l0_1.length c0_1) ∧ w'.cell? ⟨gb557, 2, none⟩ = some (.int .i64 a0_2) ∧ w'.cell? ⟨gb557, 3, none⟩ = some (.slice (some ad580) l0_3.length c0_3) ∧ w'.cell? (ad580.add ((x11_2).toNat * 2)) = some (.int .i64 ((rd_T62 l0_3 x11_2).f0)) ∧ w'.cell? ⟨(ad580.add ((x11_2).toNat * 2)).block, (ad580.add ((x11_2).toNat * 2)).off + 1, none⟩ = some (.slice A580_1 ((rd_T62 l0_3 x11_2).f1).length c580_1) ∧ w'.cell? (ad580.add ((x11_2).toNat * 2)) = some (.int .i64 ((rd_T62 l0_3 x11_2).f0)) ∧ w'.cell? ⟨(ad580.add ((x11_2).toNat * 2)).block, (ad580.add ((x11_2).toNat * 2)).off + 1, none⟩ = some (.slice A580_1 ((rd_T62 l0_3 x11_2).f1).length c580_1)) ∧ (Kd.R (Kd.int .i64) 3 w' w.heap.size (fun k_ => some k_ ≠ (.slice Ao16 x5_2.length co16 : Value).ownBlock) s_.1 t582) ∧ (Kd.R (Kd.int .i64) 3 w' w.heap.size (fun k_ => some k_ ≠ (s_.1 : Value).ownBlock) (.slice Ao16 x5_2.length co16) x5_2) ∧ (Kd.S k62 62 w' w.heap.size (fun k_ => some k_ ≠ (s_.1 : Value).ownBlock ∧ some k_ ≠ (.slice Ao16 x5_2.length co16 : Value).ownBlock ∧ k_ ≠ s_.2) u580003 x580003_2) ∧ (w'.heap[gb557]? = some (.cells #[.slice A0_0 l0_0.length c0_0, .slice A0_1 l0_1.length c0_1, .int .i64 a0_2, .slice (some ad580) l0_3.length c0_3] 26 (0, 0))) ∧ (w'.heap[gb579]? = some (.cells #[.slice A0_0 l0_0.length c0_0, .slice A0_1 l0_1.length c0_1, .int .i64 a0_2, u580003] 26 (0, 0))) ∧ (w'.heap[s_.2]? = some (.cells #[.int .i64 0, .slice none 0 0] 62 (0, 0))) ∧ (w.heap.size ≤ s_.2) ∧ (w.heap.size ≤ s_.2) ∧ (gb557 ≠ s_.2) ∧ (s_.2 ≠ gb557) ∧ (gb579 ≠ s_.2) ∧ (s_.2 ≠ gb579) ∧ (Below w.heap.size w w')) ?_ ?_
         rotate_left
         ·intro hCont
          refine two_ (i := 12) (j := 14) (Ni := some 59) (Nj := some 12) #[true, true, true, true, true, true, true, true, true, true, true, true, true, false, false, false] #[true, true, true, true, true, true, true, true, true, true, true, true, false, false, true, false] rfl rfl rfl rfl (two_of HT_.out (by kernel_rfl)) (by decide) (by decide) (fun K hK => ?_) (fun K hK => ?_)
          ·skip
           refine goes_ Try.func22 (by kernel_rfl) rfl #[.slice A580_1 ((rd_T62 l0_3 x11_2).f1).length c580_1] (by rfl) rfl rfl (by (try simp only [List.map_toArray, List.map_cons, List.map_nil]); first | done | rfl | (simp only [List.length_drop, List.length_take]; rfl)) ?_
           with_reducible refine (tensilelaw08_list.calls _ _ ((rd_T62 l0_3 x11_2).f1) t582 _ ?side1 ?side2 A30.out).mono ?_
           (case side1 => repeat (first | exact (Kd.C_below HR581_1.out HB.out) | (with_reducible refine Kd.C_alloc ?_ _) | (with_reducible refine Kd.C_drewN ?_ _) | (with_reducible refine Kd.C_drew ?_)))
           (case side2 => exact HC581_1.out)
           rintro e w34 ⟨v583, rfl, ho0, hb⟩
           refine ⟨_, rfl, ?_⟩
           have n0_ := Aside0.mk (Kd.R_elder' (by (with_reducible repeat (first | apply Kd.R_alloc | apply Kd.R_drewN | apply Kd.R_drew)); exact HO_5.out) (Kd.R_base ho0) hb)
           have n1_ := Aside0.mk (Kd.S_elder' (by (with_reducible repeat (first | apply Kd.S_alloc | apply Kd.S_drewN | apply Kd.S_drew)); exact HO_580003.out) (Kd.R_base ho0) hb)
           have n2_ := Aside0.mk (Kd.R_lower (Kd.R_new' ho0 (Kd.R_lt (by (with_reducible repeat (first | apply Kd.R_alloc | apply Kd.R_drewN | apply Kd.R_drew)); exact HO_5.out))) (below_size (by repeat (first | (with_reducible first | exact HB.out | apply below_alloc | apply pw_below_drewN | apply below_drew1 | refine below_set ?_ GE557.out | refine below_set ?_ GE579.out) | exact HB.out))))
           have n3_ := Aside0.mk (blk_below (g := gb557) (o := .cells #[.slice A0_0 l0_0.length c0_0, .slice A0_1 l0_1.length c0_1, .int .i64 a0_2, .slice (some ad580) l0_3.length c0_3] 26 (0, 0)) (by (with_reducible repeat (first | refine blk_drewN ?_ _ | refine blk_drew ?_ | refine blk_alloc ?_ _)); exact BK557.out) hb)
           have n4_ := Aside0.mk (blk_below (g := gb579) (o := .cells #[.slice A0_0 l0_0.length c0_0, .slice A0_1 l0_1.length c0_1, .int .i64 a0_2, u580003] 26 (0, 0)) (by (with_reducible repeat (first | refine blk_drewN ?_ _ | refine blk_drew ?_ | refine blk_alloc ?_ _)); exact BK579.out) hb)
           have n5_ := Aside0.mk (below_step (by repeat (first | (with_reducible first | exact HB.out | apply below_alloc | apply pw_below_drewN | apply below_drew1 | refine below_set ?_ GE557.out | refine below_set ?_ GE579.out) | exact HB.out)) hb)
           clear HO_5
           clear HO_580003
           clear BK557
           clear BK579
           clear HB
           have HO_5 := n0_
           have HO_580003 := n1_
           have HO584 := n2_
           have BK557 := n3_
           have BK579 := n4_
           have HB := n5_
           clear n0_ n1_ n2_ n3_ n4_ n5_
           (try clear hb)
           (try clear hb2)
           (try clear hk)
           (try clear hi)
           (try clear ho0)
           obtain ⟨Ao35, co35, eo35⟩ := Kd.R_slice HO584.out
           (first | subst eo35 | (injection eo35 with f1_ f2_ f3_; have f4_ := f1_.symm; have f5_ := f3_.symm; clear f1_ f2_ f3_; subst f4_; subst f5_))
           refine hK.out _ _ ⟨(blk_cell BK557.out 0).trans rfl, (blk_cell BK557.out 1).trans rfl, (blk_cell BK557.out 2).trans rfl, (blk_cell BK557.out 3).trans rfl, ((HB.out.cell (World.block_lt_of_cell? w _ hw580_0)).trans hw580_0), ((HB.out.cell (World.block_lt_of_cell? w _ hw580_1)).trans hw580_1), ((HB.out.cell (World.block_lt_of_cell? w _ hw581_0)).trans hw581_0), ((HB.out.cell (World.block_lt_of_cell? w _ hw581_1)).trans hw581_1)⟩ (fun hHeld => ?_)
           clear hK K
           refine norm_ (a' := ?_) ?_ ?_
           rotate_left
           ·show Act.put _ (some 59) _ = _
            simp only [Act.put, List.setIfInBounds_toArray, List.set_cons_zero, List.set_cons_succ, i64_w, i32_w]
            rfl
           refine pure_ (i := 13) (N := some 60) (v := ?_) (a' := ?_) #[true, true, true, true, true, true, true, true, true, true, true, true, true, true, false, false] rfl rfl (any_of HT_.out (by kernel_rfl)) (fun _ _ _ h => h) (Or.inl ⟨by rfl, ?_⟩) ?_ ?_
           rotate_left
           ·intro w'
            go_simp
            with_reducible rfl
           rotate_left
           ·simp only [Act.put, List.setIfInBounds_toArray, List.set_cons_zero, List.set_cons_succ, i64_w, i32_w]
            rfl
           refine one_ (i := 14) (N := some 12) #[true, true, true, true, true, true, true, true, true, true, true, true, true, true, true, false] rfl rfl (one_of HT_.out (by kernel_rfl)) (by decide) (fun K hK => ?_)
           refine box_step ?hg (N := 12) ?hd (cs := #[.int .i64 0, .slice none 0 0]) (t := 62) ?hr ?_; (case hd => rfl); (case hg => rfl); (case hr => first | (go_simp; done) | (go_simp; rfl))
           intro gb585 hg w36 hbox hb
           have n0_ := Aside0.mk (Kd.R_below (by (with_reducible repeat (first | apply Kd.R_alloc | apply Kd.R_drewN | apply Kd.R_drew)); exact HO_5.out) hb)
           have n1_ := Aside0.mk (Kd.S_below (Kd.S_elderB (by (with_reducible repeat (first | apply Kd.S_alloc | apply Kd.S_drewN | apply Kd.S_drew)); exact HO_580003.out) gb585 (Nat.le_of_eq hg.symm)) hb)
           have n2_ := Aside0.mk (Kd.R_below (by (with_reducible repeat (first | apply Kd.R_alloc | apply Kd.R_drewN | apply Kd.R_drew)); exact HO584.out) hb)
           have n3_ := Aside0.mk (blk_below (g := gb557) (o := .cells #[.slice A0_0 l0_0.length c0_0, .slice A0_1 l0_1.length c0_1, .int .i64 a0_2, .slice (some ad580) l0_3.length c0_3] 26 (0, 0)) (by (with_reducible repeat (first | refine blk_drewN ?_ _ | refine blk_drew ?_ | refine blk_alloc ?_ _)); exact BK557.out) hb)
           have n4_ := Aside0.mk (blk_below (g := gb579) (o := .cells #[.slice A0_0 l0_0.length c0_0, .slice A0_1 l0_1.length c0_1, .int .i64 a0_2, u580003] 26 (0, 0)) (by (with_reducible repeat (first | refine blk_drewN ?_ _ | refine blk_drew ?_ | refine blk_alloc ?_ _)); exact BK579.out) hb)
           have n5_ := Aside0.mk (below_step (by repeat (first | (with_reducible first | exact HB.out | apply below_alloc | apply pw_below_drewN | apply below_drew1 | refine below_set ?_ GE557.out | refine below_set ?_ GE579.out) | exact HB.out)) hb)
           have n6_ := Aside0.mk (hbox)
           have n7_ := Aside0.mk ((by rw [hg]; exact (below_size (by repeat (first | (with_reducible first | exact HB.out | apply below_alloc | apply pw_below_drewN | apply below_drew1 | refine below_set ?_ GE557.out | refine below_set ?_ GE579.out) | exact HB.out))) : w.heap.size ≤ gb585))
           have n8_ := Aside0.mk ((by rw [hg]; exact (below_size (by repeat (first | (with_reducible first | exact HB.out | apply below_alloc | apply pw_below_drewN | apply below_drew1 | refine below_set ?_ GE557.out | refine below_set ?_ GE579.out) | exact HB.out))) : w.heap.size ≤ gb585))
           have n9_ := Aside0.mk ((by rw [hg]; exact Nat.ne_of_lt (blk_lt (g := gb557) (o := .cells #[.slice A0_0 l0_0.length c0_0, .slice A0_1 l0_1.length c0_1, .int .i64 a0_2, .slice (some ad580) l0_3.length c0_3] 26 (0, 0)) (by (with_reducible repeat (first | refine blk_drewN ?_ _ | refine blk_drew ?_ | refine blk_alloc ?_ _)); exact BK557.out)) : gb557 ≠ gb585))
           have n10_ := Aside0.mk ((by rw [hg]; exact Nat.ne_of_gt (blk_lt (g := gb557) (o := .cells #[.slice A0_0 l0_0.length c0_0, .slice A0_1 l0_1.length c0_1, .int .i64 a0_2, .slice (some ad580) l0_3.length c0_3] 26 (0, 0)) (by (with_reducible repeat (first | refine blk_drewN ?_ _ | refine blk_drew ?_ | refine blk_alloc ?_ _)); exact BK557.out)) : gb585 ≠ gb557))
           have n11_ := Aside0.mk ((by rw [hg]; exact Nat.ne_of_lt (blk_lt (g := gb579) (o := .cells #[.slice A0_0 l0_0.length c0_0, .slice A0_1 l0_1.length c0_1, .int .i64 a0_2, u580003] 26 (0, 0)) (by (with_reducible repeat (first | refine blk_drewN ?_ _ | refine blk_drew ?_ | refine blk_alloc ?_ _)); exact BK579.out)) : gb579 ≠ gb585))
           have n12_ := Aside0.mk ((by rw [hg]; exact Nat.ne_of_gt (blk_lt (g := gb579) (o := .cells #[.slice A0_0 l0_0.length c0_0, .slice A0_1 l0_1.length c0_1, .int .i64 a0_2, u580003] 26 (0, 0)) (by (with_reducible repeat (first | refine blk_drewN ?_ _ | refine blk_drew ?_ | refine blk_alloc ?_ _)); exact BK579.out)) : gb585 ≠ gb579))
           clear HO_5
           clear HO_580003
           clear HO584
           clear BK557
           clear BK579
           clear HB
           have HO_5 := n0_
           have HO_580003 := n1_
           have HO584 := n2_
           have BK557 := n3_
           have BK579 := n4_
           have HB := n5_
           have BK585 := n6_
           have GW585 := n7_
           have GE585 := n8_
           have NB557_585 := n9_
           have NB585_557 := n10_
           have NB579_585 := n11_
           have NB585_579 := n12_
           clear n0_ n1_ n2_ n3_ n4_ n5_ n6_ n7_ n8_ n9_ n10_ n11_ n12_
           clear hb hbox hg
           refine hK.out _ _ ⟨(blk_cell BK557.out 0).trans rfl, (blk_cell BK557.out 1).trans rfl, (blk_cell BK557.out 2).trans rfl, (blk_cell BK557.out 3).trans rfl, ((HB.out.cell (World.block_lt_of_cell? w _ hw580_0)).trans hw580_0), ((HB.out.cell (World.block_lt_of_cell? w _ hw580_1)).trans hw580_1), ((HB.out.cell (World.block_lt_of_cell? w _ hw581_0)).trans hw581_0), ((HB.out.cell (World.block_lt_of_cell? w _ hw581_1)).trans hw581_1)⟩ (fun hHeld => ?_)
           clear hK K
           refine norm_ (a' := ?_) ?_ ?_
           rotate_left
           ·show Act.put _ (some 12) _ = _
            simp only [Act.put, List.setIfInBounds_toArray, List.set_cons_zero, List.set_cons_succ, i64_w, i32_w]
            rfl
           exact norm_ (by simp only [putAll, Act.put, List.setIfInBounds_toArray, List.set_cons_zero, List.set_cons_succ]) (hCont (.slice Ao35 t582.length co35, gb585) _ ⟨hHeld, (by (with_reducible repeat (first | apply Kd.R_alloc | apply Kd.R_drewN | apply Kd.R_drew)); exact Kd.R_mono HO584.out (fun _ hk => hk.2)), (by (with_reducible repeat (first | apply Kd.R_alloc | apply Kd.R_drewN | apply Kd.R_drew)); exact Kd.R_mono HO_5.out (fun _ hk => hk.2)), (by (with_reducible repeat (first | apply Kd.S_alloc | apply Kd.S_drewN | apply Kd.S_drew)); exact Kd.S_mono HO_580003.out (fun _ hk => ⟨hk.1.2, ⟨hk.1.1, hk.2⟩⟩)), (by (with_reducible repeat (first | refine blk_drewN ?_ _ | refine blk_drew ?_ | refine blk_alloc ?_ _)); exact BK557.out), (by (with_reducible repeat (first | refine blk_drewN ?_ _ | refine blk_drew ?_ | refine blk_alloc ?_ _)); exact BK579.out), (by (with_reducible repeat (first | refine blk_drewN ?_ _ | refine blk_drew ?_ | refine blk_alloc ?_ _)); exact BK585.out), GW585.out, GE585.out, NB557_585.out, NB585_557.out, NB579_585.out, NB585_579.out, (by repeat (first | (with_reducible first | exact HB.out | apply below_alloc | apply pw_below_drewN | apply below_drew1 | refine below_set ?_ GE557.out | refine below_set ?_ GE579.out | refine below_set ?_ GE585.out) | exact HB.out))⟩)
          ·skip
           refine box_step ?hg (N := 12) ?hd (cs := #[.int .i64 0, .slice none 0 0]) (t := 62) ?hr ?_; (case hd => rfl); (case hg => rfl); (case hr => first | (go_simp; done) | (go_simp; rfl))
           intro gb585 hg w34 hbox hb
           have n0_ := Aside0.mk (Kd.R_below (by (with_reducible repeat (first | apply Kd.R_alloc | apply Kd.R_drewN | apply Kd.R_drew)); exact HO_5.out) hb)
           have n1_ := Aside0.mk (Kd.S_below (Kd.S_elderB (by (with_reducible repeat (first | apply Kd.S_alloc | apply Kd.S_drewN | apply Kd.S_drew)); exact HO_580003.out) gb585 (Nat.le_of_eq hg.symm)) hb)
           have n2_ := Aside0.mk (blk_below (g := gb557) (o := .cells #[.slice A0_0 l0_0.length c0_0, .slice A0_1 l0_1.length c0_1, .int .i64 a0_2, .slice (some ad580) l0_3.length c0_3] 26 (0, 0)) (by (with_reducible repeat (first | refine blk_drewN ?_ _ | refine blk_drew ?_ | refine blk_alloc ?_ _)); exact BK557.out) hb)
           have n3_ := Aside0.mk (blk_below (g := gb579) (o := .cells #[.slice A0_0 l0_0.length c0_0, .slice A0_1 l0_1.length c0_1, .int .i64 a0_2, u580003] 26 (0, 0)) (by (with_reducible repeat (first | refine blk_drewN ?_ _ | refine blk_drew ?_ | refine blk_alloc ?_ _)); exact BK579.out) hb)
           have n4_ := Aside0.mk (below_step (by repeat (first | (with_reducible first | exact HB.out | apply below_alloc | apply pw_below_drewN | apply below_drew1 | refine below_set ?_ GE557.out | refine below_set ?_ GE579.out) | exact HB.out)) hb)
           have n5_ := Aside0.mk (hbox)
           have n6_ := Aside0.mk ((by rw [hg]; exact (below_size (by repeat (first | (with_reducible first | exact HB.out | apply below_alloc | apply pw_below_drewN | apply below_drew1 | refine below_set ?_ GE557.out | refine below_set ?_ GE579.out) | exact HB.out))) : w.heap.size ≤ gb585))
           have n7_ := Aside0.mk ((by rw [hg]; exact (below_size (by repeat (first | (with_reducible first | exact HB.out | apply below_alloc | apply pw_below_drewN | apply below_drew1 | refine below_set ?_ GE557.out | refine below_set ?_ GE579.out) | exact HB.out))) : w.heap.size ≤ gb585))
           have n8_ := Aside0.mk ((by rw [hg]; exact Nat.ne_of_lt (blk_lt (g := gb557) (o := .cells #[.slice A0_0 l0_0.length c0_0, .slice A0_1 l0_1.length c0_1, .int .i64 a0_2, .slice (some ad580) l0_3.length c0_3] 26 (0, 0)) (by (with_reducible repeat (first | refine blk_drewN ?_ _ | refine blk_drew ?_ | refine blk_alloc ?_ _)); exact BK557.out)) : gb557 ≠ gb585))
           have n9_ := Aside0.mk ((by rw [hg]; exact Nat.ne_of_gt (blk_lt (g := gb557) (o := .cells #[.slice A0_0 l0_0.length c0_0, .slice A0_1 l0_1.length c0_1, .int .i64 a0_2, .slice (some ad580) l0_3.length c0_3] 26 (0, 0)) (by (with_reducible repeat (first | refine blk_drewN ?_ _ | refine blk_drew ?_ | refine blk_alloc ?_ _)); exact BK557.out)) : gb585 ≠ gb557))
           have n10_ := Aside0.mk ((by rw [hg]; exact Nat.ne_of_lt (blk_lt (g := gb579) (o := .cells #[.slice A0_0 l0_0.length c0_0, .slice A0_1 l0_1.length c0_1, .int .i64 a0_2, u580003] 26 (0, 0)) (by (with_reducible repeat (first | refine blk_drewN ?_ _ | refine blk_drew ?_ | refine blk_alloc ?_ _)); exact BK579.out)) : gb579 ≠ gb585))
           have n11_ := Aside0.mk ((by rw [hg]; exact Nat.ne_of_gt (blk_lt (g := gb579) (o := .cells #[.slice A0_0 l0_0.length c0_0, .slice A0_1 l0_1.length c0_1, .int .i64 a0_2, u580003] 26 (0, 0)) (by (with_reducible repeat (first | refine blk_drewN ?_ _ | refine blk_drew ?_ | refine blk_alloc ?_ _)); exact BK579.out)) : gb585 ≠ gb579))
           clear HO_5
           clear HO_580003
           clear BK557
           clear BK579
           clear HB
           have HO_5 := n0_
           have HO_580003 := n1_
           have BK557 := n2_
           have BK579 := n3_
           have HB := n4_
           have BK585 := n5_
           have GW585 := n6_
           have GE585 := n7_
           have NB557_585 := n8_
           have NB585_557 := n9_
           have NB579_585 := n10_
           have NB585_579 := n11_
           clear n0_ n1_ n2_ n3_ n4_ n5_ n6_ n7_ n8_ n9_ n10_ n11_
           clear hb hbox hg
           refine hK.out _ _ ⟨(blk_cell BK557.out 0).trans rfl, (blk_cell BK557.out 1).trans rfl, (blk_cell BK557.out 2).trans rfl, (blk_cell BK557.out 3).trans rfl, ((HB.out.cell (World.block_lt_of_cell? w _ hw580_0)).trans hw580_0), ((HB.out.cell (World.block_lt_of_cell? w _ hw580_1)).trans hw580_1), ((HB.out.cell (World.block_lt_of_cell? w _ hw581_0)).trans hw581_0), ((HB.out.cell (World.block_lt_of_cell? w _ hw581_1)).trans hw581_1)⟩ (fun hHeld => ?_)
           clear hK K
           refine norm_ (a' := ?_) ?_ ?_
           rotate_left
           ·show Act.put _ (some 12) _ = _
            simp only [Act.put, List.setIfInBounds_toArray, List.set_cons_zero, List.set_cons_succ, i64_w, i32_w]
            rfl
           refine one_ (i := 12) (N := some 59) #[true, true, true, true, true, true, true, true, true, true, true, true, true, false, true, false] rfl rfl (one_of HT_.out (by kernel_rfl)) (by decide) (fun K hK => ?_)
           refine goes_ Try.func22 (by kernel_rfl) rfl #[.slice A580_1 ((rd_T62 l0_3 x11_2).f1).length c580_1] (by rfl) rfl rfl (by (try simp only [List.map_toArray, List.map_cons, List.map_nil]); first | done | rfl | (simp only [List.length_drop, List.length_take]; rfl)) ?_
           with_reducible refine (tensilelaw08_list.calls _ _ ((rd_T62 l0_3 x11_2).f1) t582 _ ?side1 ?side2 A30.out).mono ?_
           (case side1 => repeat (first | exact (Kd.C_below HR581_1.out HB.out) | (with_reducible refine Kd.C_alloc ?_ _) | (with_reducible refine Kd.C_drewN ?_ _) | (with_reducible refine Kd.C_drew ?_)))
           (case side2 => exact HC581_1.out)
           rintro e w35 ⟨v583, rfl, ho0, hb⟩
           refine ⟨_, rfl, ?_⟩
           have n0_ := Aside0.mk (Kd.R_elder' (by (with_reducible repeat (first | apply Kd.R_alloc | apply Kd.R_drewN | apply Kd.R_drew)); exact HO_5.out) (Kd.R_base ho0) hb)
           have n1_ := Aside0.mk (Kd.S_elder' (by (with_reducible repeat (first | apply Kd.S_alloc | apply Kd.S_drewN | apply Kd.S_drew)); exact HO_580003.out) (Kd.R_base ho0) hb)
           have n2_ := Aside0.mk (Kd.R_lower (Kd.R_new' ho0 (Kd.R_lt (by (with_reducible repeat (first | apply Kd.R_alloc | apply Kd.R_drewN | apply Kd.R_drew)); exact HO_5.out))) (below_size (by repeat (first | (with_reducible first | exact HB.out | apply below_alloc | apply pw_below_drewN | apply below_drew1 | refine below_set ?_ GE557.out | refine below_set ?_ GE579.out | refine below_set ?_ GE585.out) | exact HB.out))))
           have n3_ := Aside0.mk (blk_below (g := gb557) (o := .cells #[.slice A0_0 l0_0.length c0_0, .slice A0_1 l0_1.length c0_1, .int .i64 a0_2, .slice (some ad580) l0_3.length c0_3] 26 (0, 0)) (by (with_reducible repeat (first | refine blk_drewN ?_ _ | refine blk_drew ?_ | refine blk_alloc ?_ _)); exact BK557.out) hb)
           have n4_ := Aside0.mk (blk_below (g := gb579) (o := .cells #[.slice A0_0 l0_0.length c0_0, .slice A0_1 l0_1.length c0_1, .int .i64 a0_2, u580003] 26 (0, 0)) (by (with_reducible repeat (first | refine blk_drewN ?_ _ | refine blk_drew ?_ | refine blk_alloc ?_ _)); exact BK579.out) hb)
           have n5_ := Aside0.mk (blk_below (g := gb585) (o := .cells #[.int .i64 0, .slice none 0 0] 62 (0, 0)) (by (with_reducible repeat (first | refine blk_drewN ?_ _ | refine blk_drew ?_ | refine blk_alloc ?_ _)); exact BK585.out) hb)
           have n6_ := Aside0.mk (below_step (by repeat (first | (with_reducible first | exact HB.out | apply below_alloc | apply pw_below_drewN | apply below_drew1 | refine below_set ?_ GE557.out | refine below_set ?_ GE579.out | refine below_set ?_ GE585.out) | exact HB.out)) hb)
           clear HO_5
           clear HO_580003
           clear BK557
           clear BK579
           clear BK585
           clear HB
           have HO_5 := n0_
           have HO_580003 := n1_
           have HO584 := n2_
           have BK557 := n3_
           have BK579 := n4_
           have BK585 := n5_
           have HB := n6_
           clear n0_ n1_ n2_ n3_ n4_ n5_ n6_
           (try clear hb)
           (try clear hb2)
           (try clear hk)
           (try clear hi)
           (try clear ho0)
           obtain ⟨Ao36, co36, eo36⟩ := Kd.R_slice HO584.out
           (first | subst eo36 | (injection eo36 with f1_ f2_ f3_; have f4_ := f1_.symm; have f5_ := f3_.symm; clear f1_ f2_ f3_; subst f4_; subst f5_))
           refine hK.out _ _ ⟨(blk_cell BK557.out 0).trans rfl, (blk_cell BK557.out 1).trans rfl, (blk_cell BK557.out 2).trans rfl, (blk_cell BK557.out 3).trans rfl, ((HB.out.cell (World.block_lt_of_cell? w _ hw580_0)).trans hw580_0), ((HB.out.cell (World.block_lt_of_cell? w _ hw580_1)).trans hw580_1), ((HB.out.cell (World.block_lt_of_cell? w _ hw581_0)).trans hw581_0), ((HB.out.cell (World.block_lt_of_cell? w _ hw581_1)).trans hw581_1)⟩ (fun hHeld => ?_)
           clear hK K
           refine norm_ (a' := ?_) ?_ ?_
           rotate_left
           ·show Act.put _ (some 59) _ = _
            simp only [Act.put, List.setIfInBounds_toArray, List.set_cons_zero, List.set_cons_succ, i64_w, i32_w]
            rfl
           refine pure_ (i := 13) (N := some 60) (v := ?_) (a' := ?_) #[true, true, true, true, true, true, true, true, true, true, true, true, true, true, true, false] rfl rfl (any_of HT_.out (by kernel_rfl)) (fun _ _ _ h => h) (Or.inl ⟨by rfl, ?_⟩) ?_ ?_
           rotate_left
           ·intro w'
            go_simp
            with_reducible rfl
           rotate_left
           ·simp only [Act.put, List.setIfInBounds_toArray, List.set_cons_zero, List.set_cons_succ, i64_w, i32_w]
            rfl
           exact norm_ (by simp only [putAll, Act.put, List.setIfInBounds_toArray, List.set_cons_zero, List.set_cons_succ]) (hCont (.slice Ao36 t582.length co36, gb585) _ ⟨hHeld, (by (with_reducible repeat (first | apply Kd.R_alloc | apply Kd.R_drewN | apply Kd.R_drew)); exact Kd.R_mono HO584.out (fun _ hk => hk.2)), (by (with_reducible repeat (first | apply Kd.R_alloc | apply Kd.R_drewN | apply Kd.R_drew)); exact Kd.R_mono HO_5.out (fun _ hk => hk.2)), (by (with_reducible repeat (first | apply Kd.S_alloc | apply Kd.S_drewN | apply Kd.S_drew)); exact Kd.S_mono HO_580003.out (fun _ hk => ⟨hk.2, ⟨hk.1.1, hk.1.2⟩⟩)), (by (with_reducible repeat (first | refine blk_drewN ?_ _ | refine blk_drew ?_ | refine blk_alloc ?_ _)); exact BK557.out), (by (with_reducible repeat (first | refine blk_drewN ?_ _ | refine blk_drew ?_ | refine blk_alloc ?_ _)); exact BK579.out), (by (with_reducible repeat (first | refine blk_drewN ?_ _ | refine blk_drew ?_ | refine blk_alloc ?_ _)); exact BK585.out), GW585.out, GE585.out, NB557_585.out, NB585_557.out, NB579_585.out, NB585_579.out, (by repeat (first | (with_reducible first | exact HB.out | apply below_alloc | apply pw_below_drewN | apply below_drew1 | refine below_set ?_ GE557.out | refine below_set ?_ GE579.out | refine below_set ?_ GE585.out) | exact HB.out))⟩)
         rintro ⟨v583, gb585⟩ w37 ⟨hS_, h0_, h1_, h2_, h3_, h4_, h5_, h6_, h7_, h8_, h9_, h10_, h11_, h12_⟩
         have n0_ : Aside0 (Kd.R (Kd.int .i64) 3 w37 w.heap.size (fun k_ => some k_ ≠ (.slice Ao16 x5_2.length co16 : Value).ownBlock) v583 t582) := ⟨h0_⟩
         have n1_ : Aside0 (Kd.R (Kd.int .i64) 3 w37 w.heap.size (fun k_ => some k_ ≠ (v583 : Value).ownBlock) (.slice Ao16 x5_2.length co16) x5_2) := ⟨h1_⟩
         have n2_ : Aside0 (Kd.S k62 62 w37 w.heap.size (fun k_ => some k_ ≠ (v583 : Value).ownBlock ∧ some k_ ≠ (.slice Ao16 x5_2.length co16 : Value).ownBlock ∧ k_ ≠ gb585) u580003 x580003_2) := ⟨h2_⟩
         have n3_ : Aside0 (w37.heap[gb557]? = some (.cells #[.slice A0_0 l0_0.length c0_0, .slice A0_1 l0_1.length c0_1, .int .i64 a0_2, .slice (some ad580) l0_3.length c0_3] 26 (0, 0))) := ⟨h3_⟩
         have n4_ : Aside0 (w37.heap[gb579]? = some (.cells #[.slice A0_0 l0_0.length c0_0, .slice A0_1 l0_1.length c0_1, .int .i64 a0_2, u580003] 26 (0, 0))) := ⟨h4_⟩
         have n5_ : Aside0 (w37.heap[gb585]? = some (.cells #[.int .i64 0, .slice none 0 0] 62 (0, 0))) := ⟨h5_⟩
         have n6_ : Aside0 (w.heap.size ≤ gb585) := ⟨h6_⟩
         have n7_ : Aside0 (w.heap.size ≤ gb585) := ⟨h7_⟩
         have n8_ : Aside0 (gb557 ≠ gb585) := ⟨h8_⟩
         have n9_ : Aside0 (gb585 ≠ gb557) := ⟨h9_⟩
         have n10_ : Aside0 (gb579 ≠ gb585) := ⟨h10_⟩
         have n11_ : Aside0 (gb585 ≠ gb579) := ⟨h11_⟩
         have n12_ : Aside0 (Below w.heap.size w w37) := ⟨h12_⟩
         clear HO_5
         clear HO_580003
         clear BK557
         clear BK579
         clear HB
         clear h0_ h1_ h2_ h3_ h4_ h5_ h6_ h7_ h8_ h9_ h10_ h11_ h12_
         have HO584 := n0_
         have HO_5 := n1_
         have HO_580003 := n2_
         have BK557 := n3_
         have BK579 := n4_
         have BK585 := n5_
         have GW585 := n6_
         have GE585 := n7_
         have NB557_585 := n8_
         have NB585_557 := n9_
         have NB579_585 := n10_
         have NB585_579 := n11_
         have HB := n12_
         clear n0_ n1_ n2_ n3_ n4_ n5_ n6_ n7_ n8_ n9_ n10_ n11_ n12_
         have hHeld : w37.cell? ⟨gb557, 0, none⟩ = some (.slice A0_0 l0_0.length c0_0) ∧ w37.cell? ⟨gb557, 1, none⟩ = some (.slice A0_1 l0_1.length c0_1) ∧ w37.cell? ⟨gb557, 2, none⟩ = some (.int .i64 a0_2) ∧ w37.cell? ⟨gb557, 3, none⟩ = some (.slice (some ad580) l0_3.length c0_3) ∧ w37.cell? (ad580.add ((x11_2).toNat * 2)) = some (.int .i64 ((rd_T62 l0_3 x11_2).f0)) ∧ w37.cell? ⟨(ad580.add ((x11_2).toNat * 2)).block, (ad580.add ((x11_2).toNat * 2)).off + 1, none⟩ = some (.slice A580_1 ((rd_T62 l0_3 x11_2).f1).length c580_1) ∧ w37.cell? (ad580.add ((x11_2).toNat * 2)) = some (.int .i64 ((rd_T62 l0_3 x11_2).f0)) ∧ w37.cell? ⟨(ad580.add ((x11_2).toNat * 2)).block, (ad580.add ((x11_2).toNat * 2)).off + 1, none⟩ = some (.slice A580_1 ((rd_T62 l0_3 x11_2).f1).length c580_1) := hS_
         obtain ⟨Ao38, co38, eo38⟩ := Kd.R_slice HO584.out
         (first | subst eo38 | (injection eo38 with f1_ f2_ f3_; have f4_ := f1_.symm; have f5_ := f3_.symm; clear f1_ f2_ f3_; subst f4_; subst f5_))
         refine norm_ (a' := ?_) ?_ ?_
         rotate_left
         ·simp only [putAll, Act.put, List.setIfInBounds_toArray, List.set_cons_zero, List.set_cons_succ]
          rfl
         refine one_ (i := 15) (N := none) #[true, true, true, true, true, true, true, true, true, true, true, true, true, true, true, true] rfl rfl (one_of HT_.out (by kernel_rfl)) (by decide) (fun K hK => ?_)
         have hs39 : w37.cell? ⟨gb585, 0, none⟩ = some (.int .i64 0) := (blk_cell BK585.out 0).trans rfl
         have hfs39 := blk_frozen BK585.out 0
         have hns39_0 := NB557_585.out
         have hns39_1 := NB579_585.out
         have hms39_0 := NB585_557.out
         have hms39_1 := NB585_579.out
         have hs40 : w37.cell? ⟨gb585, 1, none⟩ = some (.slice none 0 0) := (blk_cell BK585.out 1).trans rfl
         have hfs40 := blk_frozen BK585.out 1
         have hns40_0 := NB557_585.out
         have hns40_1 := NB579_585.out
         have hms40_0 := NB585_557.out
         have hms40_1 := NB585_579.out
         refine skip_ (w1 := ?_) (by rfl) rfl ?_ ?_
         rotate_left
         ·go_simp
          rfl
         refine hK.out _ _ ⟨((cell_far (p := ⟨gb585, _, none⟩) NB557_585.out _).trans (((cell_far (p := ⟨gb585, _, none⟩) NB557_585.out _).trans (hHeld.1)))), ((cell_far (p := ⟨gb585, _, none⟩) NB557_585.out _).trans (((cell_far (p := ⟨gb585, _, none⟩) NB557_585.out _).trans (hHeld.2.1)))), ((cell_far (p := ⟨gb585, _, none⟩) NB557_585.out _).trans (((cell_far (p := ⟨gb585, _, none⟩) NB557_585.out _).trans (hHeld.2.2.1)))), ((cell_far (p := ⟨gb585, _, none⟩) NB557_585.out _).trans (((cell_far (p := ⟨gb585, _, none⟩) NB557_585.out _).trans (hHeld.2.2.2.1)))), ((cell_far (p := ⟨gb585, _, none⟩) (by first | exact Nat.ne_of_lt (Nat.lt_of_lt_of_le (by have := World.block_lt_of_cell? _ _ hw580_0; first | rwa [add_block] at this | exact this) GW585.out) | (rw [add_block]; exact Nat.ne_of_lt (Nat.lt_of_lt_of_le (by have := World.block_lt_of_cell? _ _ hw580_0; first | rwa [add_block] at this | exact this) GW585.out)) | (show (Addr.add _ _).block ≠ _; rw [add_block]; exact Nat.ne_of_lt (Nat.lt_of_lt_of_le (by have := World.block_lt_of_cell? _ _ hw580_0; first | rwa [add_block] at this | exact this) GW585.out)) | (dsimp only; exact Nat.ne_of_lt (Nat.lt_of_lt_of_le (by have := World.block_lt_of_cell? _ _ hw580_0; first | rwa [add_block] at this | exact this) GW585.out))) _).trans (((cell_far (p := ⟨gb585, _, none⟩) (by first | exact Nat.ne_of_lt (Nat.lt_of_lt_of_le (by have := World.block_lt_of_cell? _ _ hw580_0; first | rwa [add_block] at this | exact this) GW585.out) | (rw [add_block]; exact Nat.ne_of_lt (Nat.lt_of_lt_of_le (by have := World.block_lt_of_cell? _ _ hw580_0; first | rwa [add_block] at this | exact this) GW585.out)) | (show (Addr.add _ _).block ≠ _; rw [add_block]; exact Nat.ne_of_lt (Nat.lt_of_lt_of_le (by have := World.block_lt_of_cell? _ _ hw580_0; first | rwa [add_block] at this | exact this) GW585.out)) | (dsimp only; exact Nat.ne_of_lt (Nat.lt_of_lt_of_le (by have := World.block_lt_of_cell? _ _ hw580_0; first | rwa [add_block] at this | exact this) GW585.out))) _).trans (hHeld.2.2.2.2.1)))), ((cell_far (p := ⟨gb585, _, none⟩) (by first | exact Nat.ne_of_lt (Nat.lt_of_lt_of_le (by have := World.block_lt_of_cell? _ _ hw580_1; first | rwa [add_block] at this | exact this) GW585.out) | (rw [add_block]; exact Nat.ne_of_lt (Nat.lt_of_lt_of_le (by have := World.block_lt_of_cell? _ _ hw580_1; first | rwa [add_block] at this | exact this) GW585.out)) | (show (Addr.add _ _).block ≠ _; rw [add_block]; exact Nat.ne_of_lt (Nat.lt_of_lt_of_le (by have := World.block_lt_of_cell? _ _ hw580_1; first | rwa [add_block] at this | exact this) GW585.out)) | (dsimp only; exact Nat.ne_of_lt (Nat.lt_of_lt_of_le (by have := World.block_lt_of_cell? _ _ hw580_1; first | rwa [add_block] at this | exact this) GW585.out))) _).trans (((cell_far (p := ⟨gb585, _, none⟩) (by first | exact Nat.ne_of_lt (Nat.lt_of_lt_of_le (by have := World.block_lt_of_cell? _ _ hw580_1; first | rwa [add_block] at this | exact this) GW585.out) | (rw [add_block]; exact Nat.ne_of_lt (Nat.lt_of_lt_of_le (by have := World.block_lt_of_cell? _ _ hw580_1; first | rwa [add_block] at this | exact this) GW585.out)) | (show (Addr.add _ _).block ≠ _; rw [add_block]; exact Nat.ne_of_lt (Nat.lt_of_lt_of_le (by have := World.block_lt_of_cell? _ _ hw580_1; first | rwa [add_block] at this | exact this) GW585.out)) | (dsimp only; exact Nat.ne_of_lt (Nat.lt_of_lt_of_le (by have := World.block_lt_of_cell? _ _ hw580_1; first | rwa [add_block] at this | exact this) GW585.out))) _).trans (hHeld.2.2.2.2.2.1)))), ((cell_far (p := ⟨gb585, _, none⟩) (by first | exact Nat.ne_of_lt (Nat.lt_of_lt_of_le (by have := World.block_lt_of_cell? _ _ hw581_0; first | rwa [add_block] at this | exact this) GW585.out) | (rw [add_block]; exact Nat.ne_of_lt (Nat.lt_of_lt_of_le (by have := World.block_lt_of_cell? _ _ hw581_0; first | rwa [add_block] at this | exact this) GW585.out)) | (show (Addr.add _ _).block ≠ _; rw [add_block]; exact Nat.ne_of_lt (Nat.lt_of_lt_of_le (by have := World.block_lt_of_cell? _ _ hw581_0; first | rwa [add_block] at this | exact this) GW585.out)) | (dsimp only; exact Nat.ne_of_lt (Nat.lt_of_lt_of_le (by have := World.block_lt_of_cell? _ _ hw581_0; first | rwa [add_block] at this | exact this) GW585.out))) _).trans (((cell_far (p := ⟨gb585, _, none⟩) (by first | exact Nat.ne_of_lt (Nat.lt_of_lt_of_le (by have := World.block_lt_of_cell? _ _ hw581_0; first | rwa [add_block] at this | exact this) GW585.out) | (rw [add_block]; exact Nat.ne_of_lt (Nat.lt_of_lt_of_le (by have := World.block_lt_of_cell? _ _ hw581_0; first | rwa [add_block] at this | exact this) GW585.out)) | (show (Addr.add _ _).block ≠ _; rw [add_block]; exact Nat.ne_of_lt (Nat.lt_of_lt_of_le (by have := World.block_lt_of_cell? _ _ hw581_0; first | rwa [add_block] at this | exact this) GW585.out)) | (dsimp only; exact Nat.ne_of_lt (Nat.lt_of_lt_of_le (by have := World.block_lt_of_cell? _ _ hw581_0; first | rwa [add_block] at this | exact this) GW585.out))) _).trans (hHeld.2.2.2.2.2.2.1)))), ((cell_far (p := ⟨gb585, _, none⟩) (by first | exact Nat.ne_of_lt (Nat.lt_of_lt_of_le (by have := World.block_lt_of_cell? _ _ hw581_1; first | rwa [add_block] at this | exact this) GW585.out) | (rw [add_block]; exact Nat.ne_of_lt (Nat.lt_of_lt_of_le (by have := World.block_lt_of_cell? _ _ hw581_1; first | rwa [add_block] at this | exact this) GW585.out)) | (show (Addr.add _ _).block ≠ _; rw [add_block]; exact Nat.ne_of_lt (Nat.lt_of_lt_of_le (by have := World.block_lt_of_cell? _ _ hw581_1; first | rwa [add_block] at this | exact this) GW585.out)) | (dsimp only; exact Nat.ne_of_lt (Nat.lt_of_lt_of_le (by have := World.block_lt_of_cell? _ _ hw581_1; first | rwa [add_block] at this | exact this) GW585.out))) _).trans (((cell_far (p := ⟨gb585, _, none⟩) (by first | exact Nat.ne_of_lt (Nat.lt_of_lt_of_le (by have := World.block_lt_of_cell? _ _ hw581_1; first | rwa [add_block] at this | exact this) GW585.out) | (rw [add_block]; exact Nat.ne_of_lt (Nat.lt_of_lt_of_le (by have := World.block_lt_of_cell? _ _ hw581_1; first | rwa [add_block] at this | exact this) GW585.out)) | (show (Addr.add _ _).block ≠ _; rw [add_block]; exact Nat.ne_of_lt (Nat.lt_of_lt_of_le (by have := World.block_lt_of_cell? _ _ hw581_1; first | rwa [add_block] at this | exact this) GW585.out)) | (dsimp only; exact Nat.ne_of_lt (Nat.lt_of_lt_of_le (by have := World.block_lt_of_cell? _ _ hw581_1; first | rwa [add_block] at this | exact this) GW585.out))) _).trans (hHeld.2.2.2.2.2.2.2))))⟩ (fun hHeld => ?_)
         clear hK K
         refine done_ (done_of HT_.out (by kernel_rfl)) ?_
         try go_wp2
         go_loopg [13] k2 (fun kq v13 w' => ∃ (x5_3 : List Int) (x13_3 : Int) (x586001_3 : List Int) (u586001 : Value), v13 = .int .i64 x13_3 ∧ Aside0 (tensilelaw08_RoundApart.l2 kq x5_3 t576 t577 x8_1 x9_1 x11_2 x13_3 l0_0 l0_1 a0_2 l0_3 l0_0 l0_1 a0_2 x580003_2 ((rd_T62 l0_3 x11_2).f0) x586001_3 = some r) ∧ Aside0 (kq ≤ k2) ∧ Aside0 (Kd.R (Kd.int .i64) 3 w' w.heap.size (fun k_ => some k_ ≠ (u586001 : Value).ownBlock) (.slice Ao16 x5_2.length co16) x5_3) ∧ Aside0 (Kd.S k62 62 w' w.heap.size (fun k_ => some k_ ≠ ((.slice Ao16 x5_2.length co16) : Value).ownBlock ∧ some k_ ≠ (u586001 : Value).ownBlock ∧ k_ ≠ gb585) u580003 x580003_2) ∧ Aside0 (Kd.R (Kd.int .i64) 3 w' w.heap.size (fun k_ => some k_ ≠ ((.slice Ao16 x5_2.length co16) : Value).ownBlock) u586001 x586001_3) ∧ Aside0 (w'.heap[gb557]? = some (.cells #[(.slice A0_0 l0_0.length c0_0), (.slice A0_1 l0_1.length c0_1), .int .i64 a0_2, (.slice (some ad580) l0_3.length c0_3)] 26 (0, 0))) ∧ Aside0 (w'.heap[gb579]? = some (.cells #[(.slice A0_0 l0_0.length c0_0), (.slice A0_1 l0_1.length c0_1), .int .i64 a0_2, u580003] 26 (0, 0))) ∧ Aside0 (w'.heap[gb585]? = some (.cells #[.int .i64 ((rd_T62 l0_3 x11_2).f0), u586001] 62 (0, 0))) ∧ Aside0 (Below w.heap.size w w'))
         case atStart => exact ⟨(x5_2), (0), (t582), (.slice Ao38 t582.length co38), (by first | rfl | (simp; done) | (simp [*]; done)), H', ⟨Nat.le_refl _⟩, ⟨by (try simp only [hl5_1]); (try simp only [hl5_2]); (with_reducible repeat (first | apply Kd.R_alloc | apply Kd.R_drewN | apply Kd.R_drew)); exact Kd.R_mono (Kd.R_far (p := ⟨gb585, 1, none⟩) (Kd.R_far (p := ⟨gb585, 0, none⟩) (Kd.R_types HO_5.out BK585.out (by decide)) (fun _ hk => hk.2) (.int .i64 ((rd_T62 l0_3 x11_2).f0))) (fun _ hk => hk.2) (.slice Ao38 t582.length co38)) (fun _ hk => hk.1)⟩, ⟨by (try simp only [hl5_1]); (try simp only [hl5_2]); (with_reducible repeat (first | apply Kd.S_alloc | apply Kd.S_drewN | apply Kd.S_drew)); exact Kd.S_mono (Kd.S_far (p := ⟨gb585, 1, none⟩) (Kd.S_far (p := ⟨gb585, 0, none⟩) (Kd.S_mono HO_580003.out (fun k_ hk => (⟨hk, hk.2.2⟩ : _ ∧ k_ ≠ gb585))) (fun _ hk => hk.2) (.int .i64 ((rd_T62 l0_3 x11_2).f0))) (fun _ hk => hk.2) (.slice Ao38 t582.length co38)) (fun _ hk => ⟨hk.1.2.1, ⟨hk.1.1, hk.1.2.2⟩⟩)⟩, ⟨by (try simp only [hl5_1]); (try simp only [hl5_2]); (with_reducible repeat (first | apply Kd.R_alloc | apply Kd.R_drewN | apply Kd.R_drew)); exact Kd.R_mono (Kd.R_far (p := ⟨gb585, 1, none⟩) (Kd.R_far (p := ⟨gb585, 0, none⟩) (Kd.R_types HO584.out BK585.out (by decide)) (fun _ hk => hk.2) (.int .i64 ((rd_T62 l0_3 x11_2).f0))) (fun _ hk => hk.2) (.slice Ao38 t582.length co38)) (fun _ hk => hk.1)⟩, ⟨by (try simp only [hl5_1]); (try simp only [hl5_2]); (with_reducible repeat (first | refine blk_drewN ?_ _ | refine blk_drew ?_ | refine blk_alloc ?_ _)); refine blk_far ?_ NB557_585.out _; (with_reducible repeat (first | refine blk_drewN ?_ _ | refine blk_drew ?_ | refine blk_alloc ?_ _)); refine blk_far ?_ NB557_585.out _; (with_reducible repeat (first | refine blk_drewN ?_ _ | refine blk_drew ?_ | refine blk_alloc ?_ _)); exact BK557.out⟩, ⟨by (try simp only [hl5_1]); (try simp only [hl5_2]); (with_reducible repeat (first | refine blk_drewN ?_ _ | refine blk_drew ?_ | refine blk_alloc ?_ _)); refine blk_far ?_ NB579_585.out _; (with_reducible repeat (first | refine blk_drewN ?_ _ | refine blk_drew ?_ | refine blk_alloc ?_ _)); refine blk_far ?_ NB579_585.out _; (with_reducible repeat (first | refine blk_drewN ?_ _ | refine blk_drew ?_ | refine blk_alloc ?_ _)); exact BK579.out⟩, ⟨by (try simp only [hl5_1]); (try simp only [hl5_2]); (with_reducible repeat (first | refine blk_drewN ?_ _ | refine blk_drew ?_ | refine blk_alloc ?_ _)); refine blk_put (cs := #[.int .i64 ((rd_T62 l0_3 x11_2).f0), .slice none 0 0]) ?_ 1 _ rfl; (with_reducible repeat (first | refine blk_drewN ?_ _ | refine blk_drew ?_ | refine blk_alloc ?_ _)); refine blk_put (cs := #[.int .i64 0, .slice none 0 0]) ?_ 0 _ rfl; (with_reducible repeat (first | refine blk_drewN ?_ _ | refine blk_drew ?_ | refine blk_alloc ?_ _)); exact BK585.out⟩, ⟨by repeat (first | (with_reducible first | exact HB.out | apply below_alloc | apply pw_below_drewN | apply below_drew1 | refine below_set ?_ GE557.out | refine below_set ?_ GE579.out | refine below_set ?_ GE585.out) | exact HB.out)⟩⟩
         case round =>
          clear H'
          try clear c1
          try clear c2
          try clear p2
          try clear c3
          try clear c4
          try clear c5
          try clear p5
          try clear q5
          try clear hx5
          try clear c10
          try clear c20
          try clear c21
          try clear c22
          try clear c23
          try clear c23b0
          try clear c26
          try clear c28
          try clear c28b0
          try clear c29
          try clear c29b0
          try clear c31
          try clear c35
          try clear c36
          try clear hcz10_0
          try clear hcz10_1
          try clear hcz10_2
          try clear hcz10_3
          try clear hcz12_0
          try clear hcz12_1
          try clear hcz12_2
          try clear hcz12_3
          try clear hcz14_0
          try clear hcz14_1
          try clear hcz14_2
          try clear hcz14_3
          try clear hcz24_0
          try clear hcz24_1
          try clear hcz24_2
          try clear hcz24_3
          try clear hcz27_0
          try clear hcz27_1
          try clear hcz27_2
          try clear hcz27_3
          try clear hcz32_0
          try clear hcz32_1
          try clear hcz32_2
          try clear hcz32_3
          try clear hfz10_0
          try clear hfz10_1
          try clear hfz10_2
          try clear hfz10_3
          try clear hfz12_0
          try clear hfz12_1
          try clear hfz12_2
          try clear hfz12_3
          try clear hfz14_0
          try clear hfz14_1
          try clear hfz14_2
          try clear hfz14_3
          try clear hfz24_0
          try clear hfz24_1
          try clear hfz24_2
          try clear hfz24_3
          try clear hfz27_0
          try clear hfz27_1
          try clear hfz27_2
          try clear hfz27_3
          try clear hfz32_0
          try clear hfz32_1
          try clear hfz32_2
          try clear hfz32_3
          try clear hx580_0
          try clear hx580_1
          try clear hx581_0
          try clear hx581_1
          try clear p2
          try clear p580
          try clear p581
          try clear q580
          try clear q581
          obtain ⟨x5_3, x13_3, x586001_3, u586001, rfl, HA, HK3, HO_5, HO_580003, HO_586001, BK557, BK579, BK585, HB⟩ := hrel
          have hl5_3 := (Kd.R_reads' HO_5.out).1
          rw [hl5_3] at HO_5
          (try simp only [hl5_3])
          (try simp only [hl5_3] at BK557)
          (try simp only [hl5_3] at BK579)
          (try simp only [hl5_3] at BK585)
          (try simp only [hl5_3] at HO_580003)
          (try simp only [hl5_3] at HO_586001)
          cases gk with
          | zero => exact absurd HA.out (by simp [tensilelaw08_RoundApart.l2])
          | succ k3 =>
           have H := HA.out
           clear HA
           simp only [tensilelaw08_RoundApart.l2] at H
           by_cases c41 : x13_3 < (l0_1.length : Int)
           ·rw [if_pos c41] at H
            have c41b0 : decide (x13_3 < (l0_1.length : Int)) = true := decide_eq_true c41
            clear c41
            by_cases c42 : 0 ≤ x13_3
            ·rw [if_pos c42] at H
             have c42b0 : decide (0 ≤ x13_3) = true := decide_eq_true c42
             clear c42
             by_cases c43 : (rd l0_1 x13_3) = x9_1
             ·rw [if_pos c43] at H
              have c43b0 : ((rd l0_1 x13_3) == x9_1) = true := beq_iff_eq.mpr c43
              have c43b1 : ((rd l0_1 x13_3) != x9_1) = false := bne_eq_false_iff_eq.mpr c43
              clear c43
              have H' := Aside0.mk H
              clear H
              have hnb44 := NB557_579.out
              have hnc44 := NB579_557.out
              have hnb45 := NB557_585.out
              have hnc45 := NB585_557.out
              have hcz46_0 : wr.cell? ⟨gb557, 0, none⟩ = some (.slice A0_0 l0_0.length c0_0) := (blk_cell BK557.out 0).trans rfl
              have hcz46_1 : wr.cell? ⟨gb557, 1, none⟩ = some (.slice A0_1 l0_1.length c0_1) := (blk_cell BK557.out 1).trans rfl
              have hcz46_2 : wr.cell? ⟨gb557, 2, none⟩ = some (.int .i64 a0_2) := (blk_cell BK557.out 2).trans rfl
              have hcz46_3 : wr.cell? ⟨gb557, 3, none⟩ = some (.slice (some ad580) l0_3.length c0_3) := (blk_cell BK557.out 3).trans rfl
              have hfz46_0 := blk_frozen BK557.out 0
              have hfz46_1 := blk_frozen BK557.out 1
              have hfz46_2 := blk_frozen BK557.out 2
              have hfz46_3 := blk_frozen BK557.out 3
              have p586 : 0 ≤ (x13_3 : Int) := of_decide_eq_true (by first | (with_reducible assumption) | assumption)
              have q586 : x13_3 < (l0_1.length : Int) := of_decide_eq_true (by first | (with_reducible assumption) | assumption)
              obtain ⟨ad586, e586, hx586_0⟩ := Kd.at_int HR0_1.out x13_3 p586 q586
              cases e586
              replace hx586_0 := (HB.out.cell (World.block_lt_of_cell? w _ hx586_0)).trans hx586_0
              replace p586 := eq_true p586
              replace q586 := eq_true q586
              go_wp2
              (try simp only [← hl5_3])
              go_roundg k3
              case measure => have := HK1.out; have := HK2.out; have := HK3.out; omega
              case rel => exact ⟨(x5_3), (wrap64 (x13_3 + 1)), (x586001_3), (u586001), (by first | rfl | (simp; done) | (simp [*]; done)), H', ⟨by have := HK1.out; have := HK2.out; have := HK3.out; omega⟩, ⟨by (try simp only [hl5_1]); (try simp only [hl5_2]); (try simp only [hl5_3]); (with_reducible repeat (first | apply Kd.R_alloc | apply Kd.R_drewN | apply Kd.R_drew)); exact HO_5.out⟩, ⟨by (try simp only [hl5_1]); (try simp only [hl5_2]); (try simp only [hl5_3]); (with_reducible repeat (first | apply Kd.S_alloc | apply Kd.S_drewN | apply Kd.S_drew)); exact HO_580003.out⟩, ⟨by (try simp only [hl5_1]); (try simp only [hl5_2]); (try simp only [hl5_3]); (with_reducible repeat (first | apply Kd.R_alloc | apply Kd.R_drewN | apply Kd.R_drew)); exact HO_586001.out⟩, ⟨by (try simp only [hl5_1]); (try simp only [hl5_2]); (try simp only [hl5_3]); (with_reducible repeat (first | refine blk_drewN ?_ _ | refine blk_drew ?_ | refine blk_alloc ?_ _)); exact BK557.out⟩, ⟨by (try simp only [hl5_1]); (try simp only [hl5_2]); (try simp only [hl5_3]); (with_reducible repeat (first | refine blk_drewN ?_ _ | refine blk_drew ?_ | refine blk_alloc ?_ _)); exact BK579.out⟩, ⟨by (try simp only [hl5_1]); (try simp only [hl5_2]); (try simp only [hl5_3]); (with_reducible repeat (first | refine blk_drewN ?_ _ | refine blk_drew ?_ | refine blk_alloc ?_ _)); exact BK585.out⟩, ⟨by repeat (first | (with_reducible first | exact HB.out | apply below_alloc | apply pw_below_drewN | apply below_drew1 | refine below_set ?_ GE557.out | refine below_set ?_ GE579.out | refine below_set ?_ GE585.out) | exact HB.out)⟩⟩
             ·rw [if_neg c43] at H
              have c43b0 : ((rd l0_1 x13_3) == x9_1) = false := beq_eq_false_iff_ne.mpr c43
              have c43b1 : ((rd l0_1 x13_3) != x9_1) = true := bne_iff_ne.mpr c43
              by_cases c47 : x13_3 < (x586001_3.length : Int)
              ·rw [if_pos c47] at H
               have c47b0 : decide (x13_3 < (x586001_3.length : Int)) = true := decide_eq_true c47
               clear c47
               obtain ⟨y587, hy587⟩ : ∃ y_ : List Int, y_ = (x586001_3.set (x13_3 : Int).toNat (-1)) := ⟨_, rfl⟩
               replace H : (tensilelaw08_RoundApart.l2 k3 x5_3 t576 t577 x8_1 x9_1 x11_2 (wrap64 (x13_3 + 1)) l0_0 l0_1 a0_2 l0_3 l0_0 l0_1 a0_2 x580003_2 ((rd_T62 l0_3 x11_2).f0) y587) = some r := by first | (rw [hy587]; with_reducible exact H) | (have H2_ := (Option.bind_some _ _).symm.trans H; rw [hy587]; with_reducible exact H2_) | (have H2_ := (Option.bind_some _ _).symm.trans H; with_reducible exact H2_) | with_reducible exact H | (rw [hy587]; exact H) | exact H
               have Ny587 := Aside0.mk hy587
               clear hy587
               have H' := Aside0.mk H
               clear H
               have hnb49 := NB557_579.out
               have hnc49 := NB579_557.out
               have hnb50 := NB557_585.out
               have hnc50 := NB585_557.out
               have hcz51_0 : wr.cell? ⟨gb557, 0, none⟩ = some (.slice A0_0 l0_0.length c0_0) := (blk_cell BK557.out 0).trans rfl
               have hcz51_1 : wr.cell? ⟨gb557, 1, none⟩ = some (.slice A0_1 l0_1.length c0_1) := (blk_cell BK557.out 1).trans rfl
               have hcz51_2 : wr.cell? ⟨gb557, 2, none⟩ = some (.int .i64 a0_2) := (blk_cell BK557.out 2).trans rfl
               have hcz51_3 : wr.cell? ⟨gb557, 3, none⟩ = some (.slice (some ad580) l0_3.length c0_3) := (blk_cell BK557.out 3).trans rfl
               have hfz51_0 := blk_frozen BK557.out 0
               have hfz51_1 := blk_frozen BK557.out 1
               have hfz51_2 := blk_frozen BK557.out 2
               have hfz51_3 := blk_frozen BK557.out 3
               have p586 : 0 ≤ (x13_3 : Int) := of_decide_eq_true (by first | (with_reducible assumption) | assumption)
               have q586 : x13_3 < (l0_1.length : Int) := of_decide_eq_true (by first | (with_reducible assumption) | assumption)
               obtain ⟨ad586, e586, hx586_0⟩ := Kd.at_int HR0_1.out x13_3 p586 q586
               cases e586
               replace hx586_0 := (HB.out.cell (World.block_lt_of_cell? w _ hx586_0)).trans hx586_0
               replace p586 := eq_true p586
               replace q586 := eq_true q586
               have hnb52 := NB585_579.out
               have hnc52 := NB579_585.out
               have hcz53_0 : wr.cell? ⟨gb585, 0, none⟩ = some (.int .i64 ((rd_T62 l0_3 x11_2).f0)) := (blk_cell BK585.out 0).trans rfl
               have hcz53_1 : wr.cell? ⟨gb585, 1, none⟩ = some (u586001) := (blk_cell BK585.out 1).trans rfl
               have hfz53_0 := blk_frozen BK585.out 0
               have hfz53_1 := blk_frozen BK585.out 1
               have p48 : 0 ≤ (x13_3 : Int) := of_decide_eq_true (by first | (with_reducible assumption) | assumption)
               have q48 : (x13_3 : Int) < ((x586001_3.length : Int) : Int) := of_decide_eq_true (by first | (with_reducible assumption) | assumption)
               obtain ⟨go48, co48, eo48, gb48, gl48, cl48, HG48⟩ := Kd.R_form HO_586001.out (by omega)
               (first | cases eo48 | (injection eo48 with ea_ en_ ec_; (first | subst ea_ | (injection ea_ with ea_; subst ea_)); subst ec_; clear en_))
               have GB48 := Aside0.mk gb48
               have GG48 := Aside0.mk HG48
               clear gb48 gl48 HG48
               obtain ⟨hx48_0, hf48_0⟩ := Kd.R_celln 0 HO_586001.out (x13_3 : Int) p48 q48
               replace p48 := eq_true p48
               replace q48 := eq_true q48
               have HP54 := Kd.R_putg HO_586001.out (x13_3 : Int) (-1)
               go_wp2_with (first | ((with_reducible refine gate_store (t := 3) (p := 78) rfl ?_); refine store_event (t := 3) (p := 78) (v := ?vo_w55) (w1 := (wr.setCell ⟨go48, (x13_3 : Int).toNat, none⟩ (.int .i64 (-1)))) ?hg ?ho ?hn ?hr ?_; (case ho => rfl); (case hg => rfl); (case hn => rfl); (case hr => first | (go_simp; done) | (go_simp; rfl)); intro w55 hw; have hg : wr.grownBy w55 (some go48) := (by rw [hw]; exact HP54.2); have hp_ : Kd.R (Kd.int .i64) 3 w55 w.heap.size (fun k_ => some k_ ≠ (.slice Ao16 x5_3.length co16 : Value).ownBlock) (.slice (some ⟨go48, 0, none⟩) x586001_3.length co48) y587 := (by rw [hw, Ny587.out]; exact HP54.1); clear HP54; have n0_ := Aside0.mk (Kd.R_after (v := (.slice (some ⟨go48, 0, none⟩) x586001_3.length co48)) (v1 := (.slice (some ⟨go48, 0, none⟩) x586001_3.length co48)) (ok := (fun _ => True)) (by (with_reducible repeat (first | apply Kd.R_alloc | apply Kd.R_drewN | apply Kd.R_drew)); exact Kd.R_mono HO_5.out (fun _ hk => ⟨trivial, hk⟩)) hg (.inl rfl)); have n1_ := Aside0.mk (Kd.S_after (v := (.slice (some ⟨go48, 0, none⟩) x586001_3.length co48)) (v1 := (.slice (some ⟨go48, 0, none⟩) x586001_3.length co48)) (ok := (fun k_ => some k_ ≠ (.slice Ao16 x5_3.length co16 : Value).ownBlock ∧ k_ ≠ gb585)) (by (with_reducible repeat (first | apply Kd.S_alloc | apply Kd.S_drewN | apply Kd.S_drew)); exact Kd.S_mono HO_580003.out (fun _ hk => ⟨⟨hk.1, hk.2.2⟩, hk.2.1⟩)) hg (.inl rfl)); have n2_ := Aside0.mk (hp_); have n3_ := Aside0.mk (blk_grown (g := gb557) (o := .cells #[.slice A0_0 l0_0.length c0_0, .slice (some ad586) l0_1.length c0_1, .int .i64 a0_2, .slice (some ad580) l0_3.length c0_3] 26 (0, 0)) (by (with_reducible repeat (first | refine blk_drewN ?_ _ | refine blk_drew ?_ | refine blk_alloc ?_ _)); exact BK557.out) hg (Kd.R_ne HO_586001.out BK557.out (by decide))); have n4_ := Aside0.mk (blk_grown (g := gb579) (o := .cells #[.slice A0_0 l0_0.length c0_0, .slice (some ad586) l0_1.length c0_1, .int .i64 a0_2, u580003] 26 (0, 0)) (by (with_reducible repeat (first | refine blk_drewN ?_ _ | refine blk_drew ?_ | refine blk_alloc ?_ _)); exact BK579.out) hg (Kd.R_ne HO_586001.out BK579.out (by decide))); have n5_ := Aside0.mk (blk_grown (g := gb585) (o := .cells #[.int .i64 ((rd_T62 l0_3 x11_2).f0), .slice (some ⟨go48, 0, none⟩) x586001_3.length co48] 62 (0, 0)) (by (with_reducible repeat (first | refine blk_drewN ?_ _ | refine blk_drew ?_ | refine blk_alloc ?_ _)); exact BK585.out) hg (Kd.R_ne HO_586001.out BK585.out (by decide))); have n6_ := Aside0.mk ((by rw [hw]; exact below_set (HB.out) GB48.out : Below w.heap.size w w55)); clear HO_5; clear HO_580003; clear HO_586001; clear BK557; clear BK579; clear BK585; clear HB; have HO_5 := n0_; have HO_580003 := n1_; have HO_586001 := n2_; have BK557 := n3_; have BK579 := n4_; have BK585 := n5_; have HB := n6_; clear n0_ n1_ n2_ n3_ n4_ n5_ n6_; clear hg hw hp_))
               (try simp only [← hl5_3])
               go_roundg k3
               case measure => have := HK1.out; have := HK2.out; have := HK3.out; omega
               case rel => exact ⟨(x5_3), (wrap64 (x13_3 + 1)), (y587), (.slice (some ⟨go48, 0, none⟩) x586001_3.length co48), (by first | rfl | (simp; done) | (simp [*]; done)), H', ⟨by have := HK1.out; have := HK2.out; have := HK3.out; omega⟩, ⟨by (try simp only [hl5_1]); (try simp only [hl5_2]); (try simp only [hl5_3]); (with_reducible repeat (first | apply Kd.R_alloc | apply Kd.R_drewN | apply Kd.R_drew)); exact Kd.R_mono HO_5.out (fun _ hk => hk.2)⟩, ⟨by (try simp only [hl5_1]); (try simp only [hl5_2]); (try simp only [hl5_3]); (with_reducible repeat (first | apply Kd.S_alloc | apply Kd.S_drewN | apply Kd.S_drew)); exact Kd.S_mono HO_580003.out (fun _ hk => ⟨hk.1.1, ⟨hk.2, hk.1.2⟩⟩)⟩, ⟨by (try simp only [hl5_1]); (try simp only [hl5_2]); (try simp only [hl5_3]); (with_reducible repeat (first | apply Kd.R_alloc | apply Kd.R_drewN | apply Kd.R_drew)); exact HO_586001.out⟩, ⟨by (try simp only [hl5_1]); (try simp only [hl5_2]); (try simp only [hl5_3]); (with_reducible repeat (first | refine blk_drewN ?_ _ | refine blk_drew ?_ | refine blk_alloc ?_ _)); exact BK557.out⟩, ⟨by (try simp only [hl5_1]); (try simp only [hl5_2]); (try simp only [hl5_3]); (with_reducible repeat (first | refine blk_drewN ?_ _ | refine blk_drew ?_ | refine blk_alloc ?_ _)); exact BK579.out⟩, ⟨by (try simp only [hl5_1]); (try simp only [hl5_2]); (try simp only [hl5_3]); (with_reducible repeat (first | refine blk_drewN ?_ _ | refine blk_drew ?_ | refine blk_alloc ?_ _)); exact BK585.out⟩, ⟨by repeat (first | (with_reducible first | exact HB.out | apply below_alloc | apply pw_below_drewN | apply below_drew1 | refine below_set ?_ GE557.out | refine below_set ?_ GE579.out | refine below_set ?_ GE585.out) | exact HB.out)⟩⟩
              ·rw [if_neg c47] at H
               exact absurd H (by simp)
            ·rw [if_neg c42] at H
             exact absurd H (by simp)
           ·rw [if_neg c41] at H
            have c41b0 : decide (x13_3 < (l0_1.length : Int)) = false := decide_eq_false c41
            clear c41
            by_cases c56 : x580003_2.length < 4398046511104
            ·rw [if_pos c56] at H
             have LMc56 := Aside0.mk c56
             clear c56
             obtain ⟨y588, hy588⟩ : ∃ y_ : List (S62), y_ = (x580003_2 ++ [(⟨((rd_T62 l0_3 x11_2).f0), x586001_3⟩ : S62)]) := ⟨_, rfl⟩
             replace H : (tensilelaw08_RoundApart.l1 k3 x5_3 t576 t577 x8_1 x9_1 (wrap64 (x11_2 + 1)) l0_0 l0_1 a0_2 l0_3 l0_0 l0_1 a0_2 y588) = some r := by first | (rw [hy588]; with_reducible exact H) | (have H2_ := (Option.bind_some _ _).symm.trans H; rw [hy588]; with_reducible exact H2_) | (have H2_ := (Option.bind_some _ _).symm.trans H; with_reducible exact H2_) | with_reducible exact H | (rw [hy588]; exact H) | exact H
             have Ny588 := Aside0.mk hy588
             clear hy588
             have H' := Aside0.mk H
             clear H
             have hnb57 := NB557_579.out
             have hnc57 := NB579_557.out
             have hnb58 := NB557_585.out
             have hnc58 := NB585_557.out
             have hcz59_0 : wr.cell? ⟨gb557, 0, none⟩ = some (.slice A0_0 l0_0.length c0_0) := (blk_cell BK557.out 0).trans rfl
             have hcz59_1 : wr.cell? ⟨gb557, 1, none⟩ = some (.slice A0_1 l0_1.length c0_1) := (blk_cell BK557.out 1).trans rfl
             have hcz59_2 : wr.cell? ⟨gb557, 2, none⟩ = some (.int .i64 a0_2) := (blk_cell BK557.out 2).trans rfl
             have hcz59_3 : wr.cell? ⟨gb557, 3, none⟩ = some (.slice (some ad580) l0_3.length c0_3) := (blk_cell BK557.out 3).trans rfl
             have hfz59_0 := blk_frozen BK557.out 0
             have hfz59_1 := blk_frozen BK557.out 1
             have hfz59_2 := blk_frozen BK557.out 2
             have hfz59_3 := blk_frozen BK557.out 3
             have hnb60 := NB579_585.out
             have hnc60 := NB585_579.out
             have hcz61_0 : wr.cell? ⟨gb579, 0, none⟩ = some (.slice A0_0 l0_0.length c0_0) := (blk_cell BK579.out 0).trans rfl
             have hcz61_1 : wr.cell? ⟨gb579, 1, none⟩ = some (.slice A0_1 l0_1.length c0_1) := (blk_cell BK579.out 1).trans rfl
             have hcz61_2 : wr.cell? ⟨gb579, 2, none⟩ = some (.int .i64 a0_2) := (blk_cell BK579.out 2).trans rfl
             have hcz61_3 : wr.cell? ⟨gb579, 3, none⟩ = some (u580003) := (blk_cell BK579.out 3).trans rfl
             have hfz61_0 := blk_frozen BK579.out 0
             have hfz61_1 := blk_frozen BK579.out 1
             have hfz61_2 := blk_frozen BK579.out 2
             have hfz61_3 := blk_frozen BK579.out 3
             have hcz62_0 : wr.cell? ⟨gb585, 0, none⟩ = some (.int .i64 ((rd_T62 l0_3 x11_2).f0)) := (blk_cell BK585.out 0).trans rfl
             have hcz62_1 : wr.cell? ⟨gb585, 1, none⟩ = some (u586001) := (blk_cell BK585.out 1).trans rfl
             have hfz62_0 := blk_frozen BK585.out 0
             have hfz62_1 := blk_frozen BK585.out 1
             obtain ⟨Ao64, co64, eo64⟩ := Kd.R_slice HO_586001.out
             subst eo64
             go_wp2_with (first | ((with_reducible refine gate_builtin (b := .append) (xs := #[.tmp 80, .tmp 82]) rfl ?_); at_builtin; refine Kd.S_append k62 (w0 := w) w.heap.size rfl (.tmp 80) (.tmp 82) 24 62 (.agg #[(.int .i64 0), (.slice none 0 0)]) 32 rfl Try.underlying24 info62 rfl (by decide) (by omega) u580003 x580003_2 (⟨((rd_T62 l0_3 x11_2).f0), x586001_3⟩ : S62) [.int .i64 ((rd_T62 l0_3 x11_2).f0), .slice Ao64 x586001_3.length co64] (fun k_ => some k_ ≠ (.slice Ao16 x5_3.length co16 : Value).ownBlock ∧ k_ ≠ gb585) (fun k_ => some k_ = (.slice Ao64 x586001_3.length co64 : Value).ownBlock) rfl rfl ?aP (fun k_ hk_ => ((Kd.R_mono (ok' := fun k_ => ((fun k_ => some k_ ≠ (.slice Ao16 x5_3.length co16 : Value).ownBlock ∧ k_ ≠ gb585)) k_ ∧ some k_ ≠ (u580003 : Value).ownBlock) (Kd.R_types (Kd.R_apart' (HO_586001.out) (Kd.S_typed HO_580003.out) (by decide)) BK585.out (by decide)) (fun k_ hk => ⟨⟨hk.1.1, hk.2⟩, hk.1.2⟩))).1 k_ hk_.symm) ?aF ?aO ?aB ?aS ?aL ?_; (case aP => exact k62_mkM _ _ _ (⟨((rd_T62 l0_3 x11_2).f0), x586001_3⟩ : S62) (Kd.R_mono (Kd.R_tight rfl (Kd.R_mono (ok' := fun k_ => ((fun k_ => some k_ ≠ (.slice Ao16 x5_3.length co16 : Value).ownBlock ∧ k_ ≠ gb585)) k_ ∧ some k_ ≠ (u580003 : Value).ownBlock) (Kd.R_types (Kd.R_apart' (HO_586001.out) (Kd.S_typed HO_580003.out) (by decide)) BK585.out (by decide)) (fun k_ hk => ⟨⟨hk.1.1, hk.2⟩, hk.1.2⟩))) (fun _ h_ => h_))); (case aB => exact (by repeat (first | (with_reducible first | exact HB.out | apply below_alloc | apply pw_below_drewN | apply below_drew1 | refine below_set ?_ GE557.out | refine below_set ?_ GE579.out | refine below_set ?_ GE585.out) | exact HB.out))); (case aF => exact (fun k_ hk => ⟨Kd.fresh' (Kd.R_lt (by (with_reducible repeat (first | apply Kd.R_alloc | apply Kd.R_drewN | apply Kd.R_drew)); exact HO_5.out)) k_ hk, Kd.freshB (g := gb585) (o := .cells #[.int .i64 ((rd_T62 l0_3 x11_2).f0), .slice Ao64 x586001_3.length co64] 62 (0, 0)) (by (with_reducible repeat (first | refine blk_drewN ?_ _ | refine blk_drew ?_ | refine blk_alloc ?_ _)); exact BK585.out) k_ hk⟩)); (case aO => exact (by (with_reducible repeat (first | apply Kd.S_alloc | apply Kd.S_drewN | apply Kd.S_drew)); exact Kd.S_mono HO_580003.out (fun k_ hk => ⟨⟨hk.1, hk.2.2⟩, fun e_ => hk.2.1 e_⟩))); (case aS => exact (below_size (by repeat (first | (with_reducible first | exact HB.out | apply below_alloc | apply pw_below_drewN | apply below_drew1 | refine below_set ?_ GE557.out | refine below_set ?_ GE579.out | refine below_set ?_ GE585.out) | exact HB.out)))); (case aL => have := LMc56.out; omega); intro v589 w63 ho hb hg hat; rw [← Ny588.out] at ho; have n0_ := Aside0.mk (Kd.R_over' (by (with_reducible repeat (first | apply Kd.R_alloc | apply Kd.R_drewN | apply Kd.R_drew)); exact HO_5.out) (Kd.S_typed (by (with_reducible repeat (first | apply Kd.S_alloc | apply Kd.S_drewN | apply Kd.S_drew)); exact HO_580003.out)) (by decide) hg); have n1_ := Aside0.mk (blk_grown (g := gb557) (o := .cells #[.slice A0_0 l0_0.length c0_0, .slice A0_1 l0_1.length c0_1, .int .i64 a0_2, .slice (some ad580) l0_3.length c0_3] 26 (0, 0)) (by (with_reducible repeat (first | refine blk_drewN ?_ _ | refine blk_drew ?_ | refine blk_alloc ?_ _)); exact BK557.out) hg (Kd.S_ne HO_580003.out BK557.out (by decide))); have n2_ := Aside0.mk (blk_grown (g := gb579) (o := .cells #[.slice A0_0 l0_0.length c0_0, .slice A0_1 l0_1.length c0_1, .int .i64 a0_2, u580003] 26 (0, 0)) (by (with_reducible repeat (first | refine blk_drewN ?_ _ | refine blk_drew ?_ | refine blk_alloc ?_ _)); exact BK579.out) hg (Kd.S_ne HO_580003.out BK579.out (by decide))); have n3_ := Aside0.mk (blk_grown (g := gb585) (o := .cells #[.int .i64 ((rd_T62 l0_3 x11_2).f0), .slice Ao64 x586001_3.length co64] 62 (0, 0)) (by (with_reducible repeat (first | refine blk_drewN ?_ _ | refine blk_drew ?_ | refine blk_alloc ?_ _)); exact BK585.out) hg (Kd.S_away HO_580003.out (fun _ hk => hk.2.2))); have n4_ := Aside0.mk (hb); have n5_ := Aside0.mk (ho); clear HO_5; clear BK557; clear BK579; clear BK585; clear HB; clear HO_580003; clear HO_586001; have HO_5 := n0_; have BK557 := n1_; have BK579 := n2_; have BK585 := n3_; have HB := n4_; have HO590 := n5_; clear n0_ n1_ n2_ n3_ n4_ n5_; clear ho hb hg hat; obtain ⟨Ao65, co65, eo65⟩ := Kd.S_slice HO590.out; subst eo65; have hcz66_0 : w63.cell? ⟨gb579, 0, none⟩ = some (.slice A0_0 l0_0.length c0_0) := (blk_cell BK579.out 0).trans rfl; have hcz66_1 : w63.cell? ⟨gb579, 1, none⟩ = some (.slice A0_1 l0_1.length c0_1) := (blk_cell BK579.out 1).trans rfl; have hcz66_2 : w63.cell? ⟨gb579, 2, none⟩ = some (.int .i64 a0_2) := (blk_cell BK579.out 2).trans rfl; have hcz66_3 : w63.cell? ⟨gb579, 3, none⟩ = some (u580003) := (blk_cell BK579.out 3).trans rfl; have hfz66_0 := blk_frozen BK579.out 0; have hfz66_1 := blk_frozen BK579.out 1; have hfz66_2 := blk_frozen BK579.out 2; have hfz66_3 := blk_frozen BK579.out 3))
             (try simp only [← hl5_2, ← hl5_3])
             go_roundg k3
             case measure => have := HK1.out; have := HK2.out; have := HK3.out; omega
             case rel => exact ⟨(x5_3), (wrap64 (x11_2 + 1)), (y588), (.slice Ao65 y588.length co65), (by first | rfl | (simp; done) | (simp [*]; done)), H', ⟨by have := HK1.out; have := HK2.out; have := HK3.out; omega⟩, ⟨by (try simp only [hl5_1]); (try simp only [hl5_2]); (try simp only [hl5_3]); (with_reducible repeat (first | apply Kd.R_alloc | apply Kd.R_drewN | apply Kd.R_drew)); exact Kd.R_mono (Kd.R_far (p := ⟨gb579, 3, none⟩) (Kd.R_types HO_5.out BK579.out (by decide)) (fun _ hk => hk.2) (.slice Ao65 y588.length co65)) (fun _ hk => trivial)⟩, ⟨by (try simp only [hl5_1]); (try simp only [hl5_2]); (try simp only [hl5_3]); (with_reducible repeat (first | apply Kd.S_alloc | apply Kd.S_drewN | apply Kd.S_drew)); exact Kd.S_mono (Kd.S_far (p := ⟨gb579, 3, none⟩) (Kd.S_types HO590.out BK579.out (by decide)) (fun _ hk => hk.2) (.slice Ao65 y588.length co65)) (fun _ hk => hk.1.1)⟩, ⟨by (try simp only [hl5_1]); (try simp only [hl5_2]); (try simp only [hl5_3]); (with_reducible repeat (first | refine blk_drewN ?_ _ | refine blk_drew ?_ | refine blk_alloc ?_ _)); refine blk_far ?_ NB557_579.out _; (with_reducible repeat (first | refine blk_drewN ?_ _ | refine blk_drew ?_ | refine blk_alloc ?_ _)); exact BK557.out⟩, ⟨by (try simp only [hl5_1]); (try simp only [hl5_2]); (try simp only [hl5_3]); (with_reducible repeat (first | refine blk_drewN ?_ _ | refine blk_drew ?_ | refine blk_alloc ?_ _)); refine blk_put (cs := #[.slice A0_0 l0_0.length c0_0, .slice A0_1 l0_1.length c0_1, .int .i64 a0_2, u580003]) ?_ 3 _ rfl; (with_reducible repeat (first | refine blk_drewN ?_ _ | refine blk_drew ?_ | refine blk_alloc ?_ _)); exact BK579.out⟩, ⟨by repeat (first | (with_reducible first | exact HB.out | apply below_alloc | apply pw_below_drewN | apply below_drew1 | refine below_set ?_ GE557.out | refine below_set ?_ GE579.out | refine below_set ?_ GE585.out) | exact HB.out)⟩⟩
            ·rw [if_neg c56] at H
             exact absurd H (by simp)
        ·rw [if_neg c29] at H
         exact absurd H (by simp)
       ·rw [if_neg c28] at H
        have c28b0 : decide (x11_2 < (l0_3.length : Int)) = false := decide_eq_false c28
        clear c28
        replace H := Option.bind_eq_some_iff.mp H
        obtain ⟨⟨t591, t594, t597, t598⟩, A670, H⟩ := H
        replace H : ((tensilelaw08_list.f x5_2).bind fun t601 => ((round_Explains.f t591 t594 t597 t598 t601).bind fun bt604 => (if bt604.2 = 0 then (if x8_1 = true then (tensilelaw08_RoundApart.l0 k2 x5_2 t576 t577 bt604.1 (wrap64 (x9_1 + 1)) l0_0 l0_1 a0_2 l0_3) else (tensilelaw08_RoundApart.l0 k2 x5_2 t576 t577 false (wrap64 (x9_1 + 1)) l0_0 l0_1 a0_2 l0_3)) else (some false)))) = some r := H
        have A67 := Aside0.mk A670
        clear A670
        replace H := Option.bind_eq_some_iff.mp H
        obtain ⟨t601, A680, H⟩ := H
        replace H : ((round_Explains.f t591 t594 t597 t598 t601).bind fun bt604 => (if bt604.2 = 0 then (if x8_1 = true then (tensilelaw08_RoundApart.l0 k2 x5_2 t576 t577 bt604.1 (wrap64 (x9_1 + 1)) l0_0 l0_1 a0_2 l0_3) else (tensilelaw08_RoundApart.l0 k2 x5_2 t576 t577 false (wrap64 (x9_1 + 1)) l0_0 l0_1 a0_2 l0_3)) else (some false))) = some r := H
        have A68 := Aside0.mk A680
        clear A680
        replace H := Option.bind_eq_some_iff.mp H
        obtain ⟨⟨t604, t605⟩, A690, H⟩ := H
        replace H : (if t605 = 0 then (if x8_1 = true then (tensilelaw08_RoundApart.l0 k2 x5_2 t576 t577 t604 (wrap64 (x9_1 + 1)) l0_0 l0_1 a0_2 l0_3) else (tensilelaw08_RoundApart.l0 k2 x5_2 t576 t577 false (wrap64 (x9_1 + 1)) l0_0 l0_1 a0_2 l0_3)) else (some false)) = some r := H
        have A69 := Aside0.mk A690
        clear A690
        by_cases c70 : t605 = 0
        ·rw [if_pos c70] at H
         have c70b0 : (t605 == 0) = true := beq_iff_eq.mpr c70
         have c70b1 : (t605 != 0) = false := bne_eq_false_iff_eq.mpr c70
         clear c70
         by_cases c71 : x8_1 = true
         ·subst c71
          have H1 : (tensilelaw08_RoundApart.l0 k2 x5_2 t576 t577 t604 (wrap64 (x9_1 + 1)) l0_0 l0_1 a0_2 l0_3) = some r := by rw [if_pos rfl] at H; exact H
          clear H
          have H := H1
          clear H1
          have H' := Aside0.mk H
          clear H
          have hnb72 := NB557_579.out
          have hnc72 := NB579_557.out
          have hcz73_0 : wr.cell? ⟨gb557, 0, none⟩ = some (.slice A0_0 l0_0.length c0_0) := (blk_cell BK557.out 0).trans rfl
          have hcz73_1 : wr.cell? ⟨gb557, 1, none⟩ = some (.slice A0_1 l0_1.length c0_1) := (blk_cell BK557.out 1).trans rfl
          have hcz73_2 : wr.cell? ⟨gb557, 2, none⟩ = some (.int .i64 a0_2) := (blk_cell BK557.out 2).trans rfl
          have hcz73_3 : wr.cell? ⟨gb557, 3, none⟩ = some (.slice A0_3 l0_3.length c0_3) := (blk_cell BK557.out 3).trans rfl
          have hfz73_0 := blk_frozen BK557.out 0
          have hfz73_1 := blk_frozen BK557.out 1
          have hfz73_2 := blk_frozen BK557.out 2
          have hfz73_3 := blk_frozen BK557.out 3
          have hcz74_0 : wr.cell? ⟨gb579, 0, none⟩ = some (.slice A0_0 l0_0.length c0_0) := (blk_cell BK579.out 0).trans rfl
          have hcz74_1 : wr.cell? ⟨gb579, 1, none⟩ = some (.slice A0_1 l0_1.length c0_1) := (blk_cell BK579.out 1).trans rfl
          have hcz74_2 : wr.cell? ⟨gb579, 2, none⟩ = some (.int .i64 a0_2) := (blk_cell BK579.out 2).trans rfl
          have hcz74_3 : wr.cell? ⟨gb579, 3, none⟩ = some (u580003) := (blk_cell BK579.out 3).trans rfl
          have hfz74_0 := blk_frozen BK579.out 0
          have hfz74_1 := blk_frozen BK579.out 1
          have hfz74_2 := blk_frozen BK579.out 2
          have hfz74_3 := blk_frozen BK579.out 3
          obtain ⟨Ao75, co75, eo75⟩ := Kd.S_slice HO_580003.out
          subst eo75
          go_wp2_with (first | ((with_reducible refine gate_callee (f := 20) rfl ?_); refine goesL_ (some 87) rfl rfl Try.func20 (by kernel_rfl) rfl #[.agg #[.slice A0_0 l0_0.length c0_0, .slice A0_1 l0_1.length c0_1, .int .i64 a0_2, .slice Ao75 x580003_2.length co75]] rfl (by (try simp only [List.map_toArray, List.map_cons, List.map_nil]); first | done | rfl | (simp only [List.length_drop, List.length_take]; rfl)) ?_; (with_reducible refine (tensilelaw08_Round.calls k2 _ _ l0_0 _ _ l0_1 a0_2 _ _ x580003_2 t591 t594 t597 t598 _ ?side1 ?side2 ?side3 ?side4 ?side5 ?side6 A67.out).mono ?_); (case side1 => repeat (first | exact (Kd.C_below HR0_0.out HB.out) | (with_reducible refine Kd.C_alloc ?_ _) | (with_reducible refine Kd.C_drewN ?_ _) | (with_reducible refine Kd.C_drew ?_))); (case side2 => exact HC0_0.out); (case side3 => repeat (first | exact (Kd.C_below HR0_1.out HB.out) | (with_reducible refine Kd.C_alloc ?_ _) | (with_reducible refine Kd.C_drewN ?_ _) | (with_reducible refine Kd.C_drew ?_))); (case side4 => exact HC0_1.out); (case side5 => repeat (first | exact (Kd.S_reads' HO_580003.out).2.2 | (with_reducible refine Kd.C_alloc ?_ _) | (with_reducible refine Kd.C_drewN ?_ _) | (with_reducible refine Kd.C_drew ?_))); (case side6 => exact (Kd.S_reads' HO_580003.out).2.1); rintro e w76 ⟨v592, v595, v599, rfl, ho0, ho1, ho2, hb⟩; refine ⟨_, rfl, ?_⟩; have n0_ := Aside0.mk (Kd.R_elder' (by (with_reducible repeat (first | apply Kd.R_alloc | apply Kd.R_drewN | apply Kd.R_drew)); exact HO_5.out) (Kd.R_base ho1) hb); have n1_ := Aside0.mk (Kd.S_elder' (by (with_reducible repeat (first | apply Kd.S_alloc | apply Kd.S_drewN | apply Kd.S_drew)); exact HO_580003.out) (Kd.R_base ho1) hb); have n2_ := Aside0.mk (Kd.R_lower ho0 (below_size (by repeat (first | (with_reducible first | exact HB.out | apply below_alloc | apply pw_below_drewN | apply below_drew1 | refine below_set ?_ GE557.out | refine below_set ?_ GE579.out) | exact HB.out)))); have n3_ := Aside0.mk (Kd.R_lower (Kd.R_new' ho1 (Kd.R_lt (by (with_reducible repeat (first | apply Kd.R_alloc | apply Kd.R_drewN | apply Kd.R_drew)); exact HO_5.out))) (below_size (by repeat (first | (with_reducible first | exact HB.out | apply below_alloc | apply pw_below_drewN | apply below_drew1 | refine below_set ?_ GE557.out | refine below_set ?_ GE579.out) | exact HB.out)))); have n4_ := Aside0.mk (Kd.S_lower (Kd.S_new' ho2 (Kd.R_lt (by (with_reducible repeat (first | apply Kd.R_alloc | apply Kd.R_drewN | apply Kd.R_drew)); exact HO_5.out))) (below_size (by repeat (first | (with_reducible first | exact HB.out | apply below_alloc | apply pw_below_drewN | apply below_drew1 | refine below_set ?_ GE557.out | refine below_set ?_ GE579.out) | exact HB.out)))); have n5_ := Aside0.mk (blk_below (g := gb557) (o := .cells #[.slice A0_0 l0_0.length c0_0, .slice A0_1 l0_1.length c0_1, .int .i64 a0_2, .slice A0_3 l0_3.length c0_3] 26 (0, 0)) (by (with_reducible repeat (first | refine blk_drewN ?_ _ | refine blk_drew ?_ | refine blk_alloc ?_ _)); exact BK557.out) hb); have n6_ := Aside0.mk (blk_below (g := gb579) (o := .cells #[.slice A0_0 l0_0.length c0_0, .slice A0_1 l0_1.length c0_1, .int .i64 a0_2, .slice Ao75 x580003_2.length co75] 26 (0, 0)) (by (with_reducible repeat (first | refine blk_drewN ?_ _ | refine blk_drew ?_ | refine blk_alloc ?_ _)); exact BK579.out) hb); have n7_ := Aside0.mk (below_step (by repeat (first | (with_reducible first | exact HB.out | apply below_alloc | apply pw_below_drewN | apply below_drew1 | refine below_set ?_ GE557.out | refine below_set ?_ GE579.out) | exact HB.out)) hb); clear HO_5; clear HO_580003; clear BK557; clear BK579; clear HB; have HO_5 := n0_; have HO_580003 := n1_; have HO593 := n2_; have HO596 := n3_; have HO600 := n4_; have BK557 := n5_; have BK579 := n6_; have HB := n7_; clear n0_ n1_ n2_ n3_ n4_ n5_ n6_ n7_; (try clear hb); (try clear hb2); (try clear hk); (try clear hi); (try clear ho0); (try clear ho1); (try clear ho2)) | ((with_reducible refine gate_callee (f := 22) rfl ?_); refine goesL_ (some 89) rfl rfl Try.func22 (by kernel_rfl) rfl #[.slice Ao16 x5_2.length co16] rfl (by (try simp only [List.map_toArray, List.map_cons, List.map_nil]); first | done | rfl | (simp only [List.length_drop, List.length_take]; rfl)) ?_; (with_reducible refine (tensilelaw08_list.calls _ _ x5_2 t601 _ ?side1 ?side2 A68.out).mono ?_); (case side1 => repeat (first | exact (Kd.R_reads' HO_5.out).2.2 | (with_reducible refine Kd.C_alloc ?_ _) | (with_reducible refine Kd.C_drewN ?_ _) | (with_reducible refine Kd.C_drew ?_))); (case side2 => exact (Kd.R_reads' HO_5.out).2.1); rintro e w77 ⟨v602, rfl, ho0, hb⟩; refine ⟨_, rfl, ?_⟩; have n0_ := Aside0.mk (Kd.R_elder' (by (with_reducible repeat (first | apply Kd.R_alloc | apply Kd.R_drewN | apply Kd.R_drew)); exact HO_5.out) (Kd.R_base ho0) hb); have n1_ := Aside0.mk (Kd.S_elder' (by (with_reducible repeat (first | apply Kd.S_alloc | apply Kd.S_drewN | apply Kd.S_drew)); exact HO_580003.out) (Kd.R_base ho0) hb); have n2_ := Aside0.mk (Kd.R_below (by (with_reducible repeat (first | apply Kd.R_alloc | apply Kd.R_drewN | apply Kd.R_drew)); exact HO593.out) hb); have n3_ := Aside0.mk (Kd.R_elder' (by (with_reducible repeat (first | apply Kd.R_alloc | apply Kd.R_drewN | apply Kd.R_drew)); exact HO596.out) (Kd.R_base ho0) hb); have n4_ := Aside0.mk (Kd.S_elder' (by (with_reducible repeat (first | apply Kd.S_alloc | apply Kd.S_drewN | apply Kd.S_drew)); exact HO600.out) (Kd.R_base ho0) hb); have n5_ := Aside0.mk (Kd.R_lower (Kd.R_new' (Kd.R_new' ho0 (Kd.R_lt (by (with_reducible repeat (first | apply Kd.R_alloc | apply Kd.R_drewN | apply Kd.R_drew)); exact HO_5.out))) (Kd.R_lt (by (with_reducible repeat (first | apply Kd.R_alloc | apply Kd.R_drewN | apply Kd.R_drew)); exact HO596.out))) (below_size (by repeat (first | (with_reducible first | exact HB.out | apply below_alloc | apply pw_below_drewN | apply below_drew1 | refine below_set ?_ GE557.out | refine below_set ?_ GE579.out) | exact HB.out)))); have n6_ := Aside0.mk (blk_below (g := gb557) (o := .cells #[.slice A0_0 l0_0.length c0_0, .slice A0_1 l0_1.length c0_1, .int .i64 a0_2, .slice A0_3 l0_3.length c0_3] 26 (0, 0)) (by (with_reducible repeat (first | refine blk_drewN ?_ _ | refine blk_drew ?_ | refine blk_alloc ?_ _)); exact BK557.out) hb); have n7_ := Aside0.mk (blk_below (g := gb579) (o := .cells #[.slice A0_0 l0_0.length c0_0, .slice A0_1 l0_1.length c0_1, .int .i64 a0_2, .slice Ao75 x580003_2.length co75] 26 (0, 0)) (by (with_reducible repeat (first | refine blk_drewN ?_ _ | refine blk_drew ?_ | refine blk_alloc ?_ _)); exact BK579.out) hb); have n8_ := Aside0.mk (below_step (by repeat (first | (with_reducible first | exact HB.out | apply below_alloc | apply pw_below_drewN | apply below_drew1 | refine below_set ?_ GE557.out | refine below_set ?_ GE579.out) | exact HB.out)) hb); clear HO_5; clear HO_580003; clear HO593; clear HO596; clear HO600; clear BK557; clear BK579; clear HB; have HO_5 := n0_; have HO_580003 := n1_; have HO593 := n2_; have HO596 := n3_; have HO600 := n4_; have HO603 := n5_; have BK557 := n6_; have BK579 := n7_; have HB := n8_; clear n0_ n1_ n2_ n3_ n4_ n5_ n6_ n7_ n8_; (try clear hb); (try clear hb2); (try clear hk); (try clear hi); (try clear ho0); obtain ⟨Ao78, co78, eo78⟩ := Kd.R_slice HO593.out; subst eo78; obtain ⟨Ao79, co79, eo79⟩ := Kd.R_slice HO596.out; subst eo79; obtain ⟨Ao80, co80, eo80⟩ := Kd.S_slice HO600.out; subst eo80; obtain ⟨Ao81, co81, eo81⟩ := Kd.R_slice HO603.out; subst eo81) | ((with_reducible refine gate_callee (f := 21) rfl ?_); refine goesL_ (some 90) rfl rfl Try.func21 (by kernel_rfl) rfl #[.agg #[.slice Ao78 t591.length co78, .slice Ao79 t594.length co79, .int .i64 t597, .slice Ao80 t598.length co80], .slice Ao81 t601.length co81] rfl (by (try simp only [List.map_toArray, List.map_cons, List.map_nil]); first | done | rfl | (simp only [List.length_drop, List.length_take]; rfl)) ?_; (with_reducible refine (round_Explains.calls _ _ t591 _ _ t594 t597 _ _ t598 _ _ t601 t604 t605 _ ?side1 ?side2 ?side3 ?side4 ?side5 ?side6 ?side7 ?side8 A69.out).mono ?_); (case side1 => repeat (first | exact (Kd.R_reads' HO593.out).2.2 | (with_reducible refine Kd.C_alloc ?_ _) | (with_reducible refine Kd.C_drewN ?_ _) | (with_reducible refine Kd.C_drew ?_))); (case side2 => exact (Kd.R_reads' HO593.out).2.1); (case side3 => repeat (first | exact (Kd.R_reads' HO596.out).2.2 | (with_reducible refine Kd.C_alloc ?_ _) | (with_reducible refine Kd.C_drewN ?_ _) | (with_reducible refine Kd.C_drew ?_))); (case side4 => exact (Kd.R_reads' HO596.out).2.1); (case side5 => repeat (first | exact (Kd.S_reads' HO600.out).2.2 | (with_reducible refine Kd.C_alloc ?_ _) | (with_reducible refine Kd.C_drewN ?_ _) | (with_reducible refine Kd.C_drew ?_))); (case side6 => exact (Kd.S_reads' HO600.out).2.1); (case side7 => repeat (first | exact (Kd.R_reads' HO603.out).2.2 | (with_reducible refine Kd.C_alloc ?_ _) | (with_reducible refine Kd.C_drewN ?_ _) | (with_reducible refine Kd.C_drew ?_))); (case side8 => exact (Kd.R_reads' HO603.out).2.1); rintro e w82 ⟨rfl, hb⟩; refine ⟨_, rfl, ?_⟩; have n0_ := Aside0.mk (Kd.R_below (by (with_reducible repeat (first | apply Kd.R_alloc | apply Kd.R_drewN | apply Kd.R_drew)); exact HO_5.out) hb); have n1_ := Aside0.mk (Kd.S_below (by (with_reducible repeat (first | apply Kd.S_alloc | apply Kd.S_drewN | apply Kd.S_drew)); exact HO_580003.out) hb); have n2_ := Aside0.mk (Kd.R_below (by (with_reducible repeat (first | apply Kd.R_alloc | apply Kd.R_drewN | apply Kd.R_drew)); exact HO593.out) hb); have n3_ := Aside0.mk (Kd.R_below (by (with_reducible repeat (first | apply Kd.R_alloc | apply Kd.R_drewN | apply Kd.R_drew)); exact HO596.out) hb); have n4_ := Aside0.mk (Kd.S_below (by (with_reducible repeat (first | apply Kd.S_alloc | apply Kd.S_drewN | apply Kd.S_drew)); exact HO600.out) hb); have n5_ := Aside0.mk (Kd.R_below (by (with_reducible repeat (first | apply Kd.R_alloc | apply Kd.R_drewN | apply Kd.R_drew)); exact HO603.out) hb); have n6_ := Aside0.mk (blk_below (g := gb557) (o := .cells #[.slice A0_0 l0_0.length c0_0, .slice A0_1 l0_1.length c0_1, .int .i64 a0_2, .slice A0_3 l0_3.length c0_3] 26 (0, 0)) (by (with_reducible repeat (first | refine blk_drewN ?_ _ | refine blk_drew ?_ | refine blk_alloc ?_ _)); exact BK557.out) hb); have n7_ := Aside0.mk (blk_below (g := gb579) (o := .cells #[.slice A0_0 l0_0.length c0_0, .slice A0_1 l0_1.length c0_1, .int .i64 a0_2, .slice Ao75 x580003_2.length co75] 26 (0, 0)) (by (with_reducible repeat (first | refine blk_drewN ?_ _ | refine blk_drew ?_ | refine blk_alloc ?_ _)); exact BK579.out) hb); have n8_ := Aside0.mk (below_step (by repeat (first | (with_reducible first | exact HB.out | apply below_alloc | apply pw_below_drewN | apply below_drew1 | refine below_set ?_ GE557.out | refine below_set ?_ GE579.out) | exact HB.out)) hb); clear HO_5; clear HO_580003; clear HO593; clear HO596; clear HO600; clear HO603; clear BK557; clear BK579; clear HB; have HO_5 := n0_; have HO_580003 := n1_; have HO593 := n2_; have HO596 := n3_; have HO600 := n4_; have HO603 := n5_; have BK557 := n6_; have BK579 := n7_; have HB := n8_; clear n0_ n1_ n2_ n3_ n4_ n5_ n6_ n7_ n8_; (try clear hb); (try clear hb2); (try clear hk); (try clear hi)))
          (try simp only [← hl5_1, ← hl5_2])
          go_roundg k2
          case measure => have := HK1.out; have := HK2.out; omega
          case rel => exact ⟨(x5_2), (t604), (wrap64 (x9_1 + 1)), (by first | rfl | (simp; done) | (simp [*]; done)), (by first | rfl | (simp; done) | (simp [*]; done)), H', ⟨by have := HK1.out; have := HK2.out; omega⟩, ⟨by (try simp only [hl5_1]); (try simp only [hl5_2]); (with_reducible repeat (first | apply Kd.R_alloc | apply Kd.R_drewN | apply Kd.R_drew)); exact Kd.R_mono HO_5.out (fun _ hk => trivial)⟩, ⟨by (try simp only [hl5_1]); (try simp only [hl5_2]); (with_reducible repeat (first | refine blk_drewN ?_ _ | refine blk_drew ?_ | refine blk_alloc ?_ _)); exact BK557.out⟩, ⟨by repeat (first | (with_reducible first | exact HB.out | apply below_alloc | apply pw_below_drewN | apply below_drew1 | refine below_set ?_ GE557.out | refine below_set ?_ GE579.out) | exact HB.out)⟩⟩
         ·replace c71 := Bool.eq_false_iff.mpr c71
          subst c71
          have H1 : (tensilelaw08_RoundApart.l0 k2 x5_2 t576 t577 false (wrap64 (x9_1 + 1)) l0_0 l0_1 a0_2 l0_3) = some r := by rw [if_neg (show ¬ (false = true) by decide)] at H; exact H
          clear H
          have H := H1
          clear H1
          have H' := Aside0.mk H
          clear H
          have hnb83 := NB557_579.out
          have hnc83 := NB579_557.out
          have hcz84_0 : wr.cell? ⟨gb557, 0, none⟩ = some (.slice A0_0 l0_0.length c0_0) := (blk_cell BK557.out 0).trans rfl
          have hcz84_1 : wr.cell? ⟨gb557, 1, none⟩ = some (.slice A0_1 l0_1.length c0_1) := (blk_cell BK557.out 1).trans rfl
          have hcz84_2 : wr.cell? ⟨gb557, 2, none⟩ = some (.int .i64 a0_2) := (blk_cell BK557.out 2).trans rfl
          have hcz84_3 : wr.cell? ⟨gb557, 3, none⟩ = some (.slice A0_3 l0_3.length c0_3) := (blk_cell BK557.out 3).trans rfl
          have hfz84_0 := blk_frozen BK557.out 0
          have hfz84_1 := blk_frozen BK557.out 1
          have hfz84_2 := blk_frozen BK557.out 2
          have hfz84_3 := blk_frozen BK557.out 3
          have hcz85_0 : wr.cell? ⟨gb579, 0, none⟩ = some (.slice A0_0 l0_0.length c0_0) := (blk_cell BK579.out 0).trans rfl
          have hcz85_1 : wr.cell? ⟨gb579, 1, none⟩ = some (.slice A0_1 l0_1.length c0_1) := (blk_cell BK579.out 1).trans rfl
          have hcz85_2 : wr.cell? ⟨gb579, 2, none⟩ = some (.int .i64 a0_2) := (blk_cell BK579.out 2).trans rfl
          have hcz85_3 : wr.cell? ⟨gb579, 3, none⟩ = some (u580003) := (blk_cell BK579.out 3).trans rfl
          have hfz85_0 := blk_frozen BK579.out 0
          have hfz85_1 := blk_frozen BK579.out 1
          have hfz85_2 := blk_frozen BK579.out 2
          have hfz85_3 := blk_frozen BK579.out 3
          obtain ⟨Ao86, co86, eo86⟩ := Kd.S_slice HO_580003.out
          subst eo86
          go_wp2_with (first | ((with_reducible refine gate_callee (f := 20) rfl ?_); refine goesL_ (some 87) rfl rfl Try.func20 (by kernel_rfl) rfl #[.agg #[.slice A0_0 l0_0.length c0_0, .slice A0_1 l0_1.length c0_1, .int .i64 a0_2, .slice Ao86 x580003_2.length co86]] rfl (by (try simp only [List.map_toArray, List.map_cons, List.map_nil]); first | done | rfl | (simp only [List.length_drop, List.length_take]; rfl)) ?_; (with_reducible refine (tensilelaw08_Round.calls k2 _ _ l0_0 _ _ l0_1 a0_2 _ _ x580003_2 t591 t594 t597 t598 _ ?side1 ?side2 ?side3 ?side4 ?side5 ?side6 A67.out).mono ?_); (case side1 => repeat (first | exact (Kd.C_below HR0_0.out HB.out) | (with_reducible refine Kd.C_alloc ?_ _) | (with_reducible refine Kd.C_drewN ?_ _) | (with_reducible refine Kd.C_drew ?_))); (case side2 => exact HC0_0.out); (case side3 => repeat (first | exact (Kd.C_below HR0_1.out HB.out) | (with_reducible refine Kd.C_alloc ?_ _) | (with_reducible refine Kd.C_drewN ?_ _) | (with_reducible refine Kd.C_drew ?_))); (case side4 => exact HC0_1.out); (case side5 => repeat (first | exact (Kd.S_reads' HO_580003.out).2.2 | (with_reducible refine Kd.C_alloc ?_ _) | (with_reducible refine Kd.C_drewN ?_ _) | (with_reducible refine Kd.C_drew ?_))); (case side6 => exact (Kd.S_reads' HO_580003.out).2.1); rintro e w87 ⟨v592, v595, v599, rfl, ho0, ho1, ho2, hb⟩; refine ⟨_, rfl, ?_⟩; have n0_ := Aside0.mk (Kd.R_elder' (by (with_reducible repeat (first | apply Kd.R_alloc | apply Kd.R_drewN | apply Kd.R_drew)); exact HO_5.out) (Kd.R_base ho1) hb); have n1_ := Aside0.mk (Kd.S_elder' (by (with_reducible repeat (first | apply Kd.S_alloc | apply Kd.S_drewN | apply Kd.S_drew)); exact HO_580003.out) (Kd.R_base ho1) hb); have n2_ := Aside0.mk (Kd.R_lower ho0 (below_size (by repeat (first | (with_reducible first | exact HB.out | apply below_alloc | apply pw_below_drewN | apply below_drew1 | refine below_set ?_ GE557.out | refine below_set ?_ GE579.out) | exact HB.out)))); have n3_ := Aside0.mk (Kd.R_lower (Kd.R_new' ho1 (Kd.R_lt (by (with_reducible repeat (first | apply Kd.R_alloc | apply Kd.R_drewN | apply Kd.R_drew)); exact HO_5.out))) (below_size (by repeat (first | (with_reducible first | exact HB.out | apply below_alloc | apply pw_below_drewN | apply below_drew1 | refine below_set ?_ GE557.out | refine below_set ?_ GE579.out) | exact HB.out)))); have n4_ := Aside0.mk (Kd.S_lower (Kd.S_new' ho2 (Kd.R_lt (by (with_reducible repeat (first | apply Kd.R_alloc | apply Kd.R_drewN | apply Kd.R_drew)); exact HO_5.out))) (below_size (by repeat (first | (with_reducible first | exact HB.out | apply below_alloc | apply pw_below_drewN | apply below_drew1 | refine below_set ?_ GE557.out | refine below_set ?_ GE579.out) | exact HB.out)))); have n5_ := Aside0.mk (blk_below (g := gb557) (o := .cells #[.slice A0_0 l0_0.length c0_0, .slice A0_1 l0_1.length c0_1, .int .i64 a0_2, .slice A0_3 l0_3.length c0_3] 26 (0, 0)) (by (with_reducible repeat (first | refine blk_drewN ?_ _ | refine blk_drew ?_ | refine blk_alloc ?_ _)); exact BK557.out) hb); have n6_ := Aside0.mk (blk_below (g := gb579) (o := .cells #[.slice A0_0 l0_0.length c0_0, .slice A0_1 l0_1.length c0_1, .int .i64 a0_2, .slice Ao86 x580003_2.length co86] 26 (0, 0)) (by (with_reducible repeat (first | refine blk_drewN ?_ _ | refine blk_drew ?_ | refine blk_alloc ?_ _)); exact BK579.out) hb); have n7_ := Aside0.mk (below_step (by repeat (first | (with_reducible first | exact HB.out | apply below_alloc | apply pw_below_drewN | apply below_drew1 | refine below_set ?_ GE557.out | refine below_set ?_ GE579.out) | exact HB.out)) hb); clear HO_5; clear HO_580003; clear BK557; clear BK579; clear HB; have HO_5 := n0_; have HO_580003 := n1_; have HO593 := n2_; have HO596 := n3_; have HO600 := n4_; have BK557 := n5_; have BK579 := n6_; have HB := n7_; clear n0_ n1_ n2_ n3_ n4_ n5_ n6_ n7_; (try clear hb); (try clear hb2); (try clear hk); (try clear hi); (try clear ho0); (try clear ho1); (try clear ho2)) | ((with_reducible refine gate_callee (f := 22) rfl ?_); refine goesL_ (some 89) rfl rfl Try.func22 (by kernel_rfl) rfl #[.slice Ao16 x5_2.length co16] rfl (by (try simp only [List.map_toArray, List.map_cons, List.map_nil]); first | done | rfl | (simp only [List.length_drop, List.length_take]; rfl)) ?_; (with_reducible refine (tensilelaw08_list.calls _ _ x5_2 t601 _ ?side1 ?side2 A68.out).mono ?_); (case side1 => repeat (first | exact (Kd.R_reads' HO_5.out).2.2 | (with_reducible refine Kd.C_alloc ?_ _) | (with_reducible refine Kd.C_drewN ?_ _) | (with_reducible refine Kd.C_drew ?_))); (case side2 => exact (Kd.R_reads' HO_5.out).2.1); rintro e w88 ⟨v602, rfl, ho0, hb⟩; refine ⟨_, rfl, ?_⟩; have n0_ := Aside0.mk (Kd.R_elder' (by (with_reducible repeat (first | apply Kd.R_alloc | apply Kd.R_drewN | apply Kd.R_drew)); exact HO_5.out) (Kd.R_base ho0) hb); have n1_ := Aside0.mk (Kd.S_elder' (by (with_reducible repeat (first | apply Kd.S_alloc | apply Kd.S_drewN | apply Kd.S_drew)); exact HO_580003.out) (Kd.R_base ho0) hb); have n2_ := Aside0.mk (Kd.R_below (by (with_reducible repeat (first | apply Kd.R_alloc | apply Kd.R_drewN | apply Kd.R_drew)); exact HO593.out) hb); have n3_ := Aside0.mk (Kd.R_elder' (by (with_reducible repeat (first | apply Kd.R_alloc | apply Kd.R_drewN | apply Kd.R_drew)); exact HO596.out) (Kd.R_base ho0) hb); have n4_ := Aside0.mk (Kd.S_elder' (by (with_reducible repeat (first | apply Kd.S_alloc | apply Kd.S_drewN | apply Kd.S_drew)); exact HO600.out) (Kd.R_base ho0) hb); have n5_ := Aside0.mk (Kd.R_lower (Kd.R_new' (Kd.R_new' ho0 (Kd.R_lt (by (with_reducible repeat (first | apply Kd.R_alloc | apply Kd.R_drewN | apply Kd.R_drew)); exact HO_5.out))) (Kd.R_lt (by (with_reducible repeat (first | apply Kd.R_alloc | apply Kd.R_drewN | apply Kd.R_drew)); exact HO596.out))) (below_size (by repeat (first | (with_reducible first | exact HB.out | apply below_alloc | apply pw_below_drewN | apply below_drew1 | refine below_set ?_ GE557.out | refine below_set ?_ GE579.out) | exact HB.out)))); have n6_ := Aside0.mk (blk_below (g := gb557) (o := .cells #[.slice A0_0 l0_0.length c0_0, .slice A0_1 l0_1.length c0_1, .int .i64 a0_2, .slice A0_3 l0_3.length c0_3] 26 (0, 0)) (by (with_reducible repeat (first | refine blk_drewN ?_ _ | refine blk_drew ?_ | refine blk_alloc ?_ _)); exact BK557.out) hb); have n7_ := Aside0.mk (blk_below (g := gb579) (o := .cells #[.slice A0_0 l0_0.length c0_0, .slice A0_1 l0_1.length c0_1, .int .i64 a0_2, .slice Ao86 x580003_2.length co86] 26 (0, 0)) (by (with_reducible repeat (first | refine blk_drewN ?_ _ | refine blk_drew ?_ | refine blk_alloc ?_ _)); exact BK579.out) hb); have n8_ := Aside0.mk (below_step (by repeat (first | (with_reducible first | exact HB.out | apply below_alloc | apply pw_below_drewN | apply below_drew1 | refine below_set ?_ GE557.out | refine below_set ?_ GE579.out) | exact HB.out)) hb); clear HO_5; clear HO_580003; clear HO593; clear HO596; clear HO600; clear BK557; clear BK579; clear HB; have HO_5 := n0_; have HO_580003 := n1_; have HO593 := n2_; have HO596 := n3_; have HO600 := n4_; have HO603 := n5_; have BK557 := n6_; have BK579 := n7_; have HB := n8_; clear n0_ n1_ n2_ n3_ n4_ n5_ n6_ n7_ n8_; (try clear hb); (try clear hb2); (try clear hk); (try clear hi); (try clear ho0); obtain ⟨Ao89, co89, eo89⟩ := Kd.R_slice HO593.out; subst eo89; obtain ⟨Ao90, co90, eo90⟩ := Kd.R_slice HO596.out; subst eo90; obtain ⟨Ao91, co91, eo91⟩ := Kd.S_slice HO600.out; subst eo91; obtain ⟨Ao92, co92, eo92⟩ := Kd.R_slice HO603.out; subst eo92) | ((with_reducible refine gate_callee (f := 21) rfl ?_); refine goesL_ (some 90) rfl rfl Try.func21 (by kernel_rfl) rfl #[.agg #[.slice Ao89 t591.length co89, .slice Ao90 t594.length co90, .int .i64 t597, .slice Ao91 t598.length co91], .slice Ao92 t601.length co92] rfl (by (try simp only [List.map_toArray, List.map_cons, List.map_nil]); first | done | rfl | (simp only [List.length_drop, List.length_take]; rfl)) ?_; (with_reducible refine (round_Explains.calls _ _ t591 _ _ t594 t597 _ _ t598 _ _ t601 t604 t605 _ ?side1 ?side2 ?side3 ?side4 ?side5 ?side6 ?side7 ?side8 A69.out).mono ?_); (case side1 => repeat (first | exact (Kd.R_reads' HO593.out).2.2 | (with_reducible refine Kd.C_alloc ?_ _) | (with_reducible refine Kd.C_drewN ?_ _) | (with_reducible refine Kd.C_drew ?_))); (case side2 => exact (Kd.R_reads' HO593.out).2.1); (case side3 => repeat (first | exact (Kd.R_reads' HO596.out).2.2 | (with_reducible refine Kd.C_alloc ?_ _) | (with_reducible refine Kd.C_drewN ?_ _) | (with_reducible refine Kd.C_drew ?_))); (case side4 => exact (Kd.R_reads' HO596.out).2.1); (case side5 => repeat (first | exact (Kd.S_reads' HO600.out).2.2 | (with_reducible refine Kd.C_alloc ?_ _) | (with_reducible refine Kd.C_drewN ?_ _) | (with_reducible refine Kd.C_drew ?_))); (case side6 => exact (Kd.S_reads' HO600.out).2.1); (case side7 => repeat (first | exact (Kd.R_reads' HO603.out).2.2 | (with_reducible refine Kd.C_alloc ?_ _) | (with_reducible refine Kd.C_drewN ?_ _) | (with_reducible refine Kd.C_drew ?_))); (case side8 => exact (Kd.R_reads' HO603.out).2.1); rintro e w93 ⟨rfl, hb⟩; refine ⟨_, rfl, ?_⟩; have n0_ := Aside0.mk (Kd.R_below (by (with_reducible repeat (first | apply Kd.R_alloc | apply Kd.R_drewN | apply Kd.R_drew)); exact HO_5.out) hb); have n1_ := Aside0.mk (Kd.S_below (by (with_reducible repeat (first | apply Kd.S_alloc | apply Kd.S_drewN | apply Kd.S_drew)); exact HO_580003.out) hb); have n2_ := Aside0.mk (Kd.R_below (by (with_reducible repeat (first | apply Kd.R_alloc | apply Kd.R_drewN | apply Kd.R_drew)); exact HO593.out) hb); have n3_ := Aside0.mk (Kd.R_below (by (with_reducible repeat (first | apply Kd.R_alloc | apply Kd.R_drewN | apply Kd.R_drew)); exact HO596.out) hb); have n4_ := Aside0.mk (Kd.S_below (by (with_reducible repeat (first | apply Kd.S_alloc | apply Kd.S_drewN | apply Kd.S_drew)); exact HO600.out) hb); have n5_ := Aside0.mk (Kd.R_below (by (with_reducible repeat (first | apply Kd.R_alloc | apply Kd.R_drewN | apply Kd.R_drew)); exact HO603.out) hb); have n6_ := Aside0.mk (blk_below (g := gb557) (o := .cells #[.slice A0_0 l0_0.length c0_0, .slice A0_1 l0_1.length c0_1, .int .i64 a0_2, .slice A0_3 l0_3.length c0_3] 26 (0, 0)) (by (with_reducible repeat (first | refine blk_drewN ?_ _ | refine blk_drew ?_ | refine blk_alloc ?_ _)); exact BK557.out) hb); have n7_ := Aside0.mk (blk_below (g := gb579) (o := .cells #[.slice A0_0 l0_0.length c0_0, .slice A0_1 l0_1.length c0_1, .int .i64 a0_2, .slice Ao86 x580003_2.length co86] 26 (0, 0)) (by (with_reducible repeat (first | refine blk_drewN ?_ _ | refine blk_drew ?_ | refine blk_alloc ?_ _)); exact BK579.out) hb); have n8_ := Aside0.mk (below_step (by repeat (first | (with_reducible first | exact HB.out | apply below_alloc | apply pw_below_drewN | apply below_drew1 | refine below_set ?_ GE557.out | refine below_set ?_ GE579.out) | exact HB.out)) hb); clear HO_5; clear HO_580003; clear HO593; clear HO596; clear HO600; clear HO603; clear BK557; clear BK579; clear HB; have HO_5 := n0_; have HO_580003 := n1_; have HO593 := n2_; have HO596 := n3_; have HO600 := n4_; have HO603 := n5_; have BK557 := n6_; have BK579 := n7_; have HB := n8_; clear n0_ n1_ n2_ n3_ n4_ n5_ n6_ n7_ n8_; (try clear hb); (try clear hb2); (try clear hk); (try clear hi)))
          (try simp only [← hl5_1, ← hl5_2])
          go_roundg k2
          case measure => have := HK1.out; have := HK2.out; omega
          case rel => exact ⟨(x5_2), (false), (wrap64 (x9_1 + 1)), (by first | rfl | (simp; done) | (simp [*]; done)), (by first | rfl | (simp; done) | (simp [*]; done)), H', ⟨by have := HK1.out; have := HK2.out; omega⟩, ⟨by (try simp only [hl5_1]); (try simp only [hl5_2]); (with_reducible repeat (first | apply Kd.R_alloc | apply Kd.R_drewN | apply Kd.R_drew)); exact Kd.R_mono HO_5.out (fun _ hk => trivial)⟩, ⟨by (try simp only [hl5_1]); (try simp only [hl5_2]); (with_reducible repeat (first | refine blk_drewN ?_ _ | refine blk_drew ?_ | refine blk_alloc ?_ _)); exact BK557.out⟩, ⟨by repeat (first | (with_reducible first | exact HB.out | apply below_alloc | apply pw_below_drewN | apply below_drew1 | refine below_set ?_ GE557.out | refine below_set ?_ GE579.out) | exact HB.out)⟩⟩
        ·rw [if_neg c70] at H
         have c70b0 : (t605 == 0) = false := beq_eq_false_iff_ne.mpr c70
         have c70b1 : (t605 != 0) = true := bne_iff_ne.mpr c70
         obtain rfl := Option.some.inj H
         have hnb94 := NB557_579.out
         have hnc94 := NB579_557.out
         have hcz95_0 : wr.cell? ⟨gb557, 0, none⟩ = some (.slice A0_0 l0_0.length c0_0) := (blk_cell BK557.out 0).trans rfl
         have hcz95_1 : wr.cell? ⟨gb557, 1, none⟩ = some (.slice A0_1 l0_1.length c0_1) := (blk_cell BK557.out 1).trans rfl
         have hcz95_2 : wr.cell? ⟨gb557, 2, none⟩ = some (.int .i64 a0_2) := (blk_cell BK557.out 2).trans rfl
         have hcz95_3 : wr.cell? ⟨gb557, 3, none⟩ = some (.slice A0_3 l0_3.length c0_3) := (blk_cell BK557.out 3).trans rfl
         have hfz95_0 := blk_frozen BK557.out 0
         have hfz95_1 := blk_frozen BK557.out 1
         have hfz95_2 := blk_frozen BK557.out 2
         have hfz95_3 := blk_frozen BK557.out 3
         have hcz96_0 : wr.cell? ⟨gb579, 0, none⟩ = some (.slice A0_0 l0_0.length c0_0) := (blk_cell BK579.out 0).trans rfl
         have hcz96_1 : wr.cell? ⟨gb579, 1, none⟩ = some (.slice A0_1 l0_1.length c0_1) := (blk_cell BK579.out 1).trans rfl
         have hcz96_2 : wr.cell? ⟨gb579, 2, none⟩ = some (.int .i64 a0_2) := (blk_cell BK579.out 2).trans rfl
         have hcz96_3 : wr.cell? ⟨gb579, 3, none⟩ = some (u580003) := (blk_cell BK579.out 3).trans rfl
         have hfz96_0 := blk_frozen BK579.out 0
         have hfz96_1 := blk_frozen BK579.out 1
         have hfz96_2 := blk_frozen BK579.out 2
         have hfz96_3 := blk_frozen BK579.out 3
         obtain ⟨Ao97, co97, eo97⟩ := Kd.S_slice HO_580003.out
         subst eo97
         go_wp2_with (first | ((with_reducible refine gate_callee (f := 20) rfl ?_); refine goesL_ (some 87) rfl rfl Try.func20 (by kernel_rfl) rfl #[.agg #[.slice A0_0 l0_0.length c0_0, .slice A0_1 l0_1.length c0_1, .int .i64 a0_2, .slice Ao97 x580003_2.length co97]] rfl (by (try simp only [List.map_toArray, List.map_cons, List.map_nil]); first | done | rfl | (simp only [List.length_drop, List.length_take]; rfl)) ?_; (with_reducible refine (tensilelaw08_Round.calls k2 _ _ l0_0 _ _ l0_1 a0_2 _ _ x580003_2 t591 t594 t597 t598 _ ?side1 ?side2 ?side3 ?side4 ?side5 ?side6 A67.out).mono ?_); (case side1 => repeat (first | exact (Kd.C_below HR0_0.out HB.out) | (with_reducible refine Kd.C_alloc ?_ _) | (with_reducible refine Kd.C_drewN ?_ _) | (with_reducible refine Kd.C_drew ?_))); (case side2 => exact HC0_0.out); (case side3 => repeat (first | exact (Kd.C_below HR0_1.out HB.out) | (with_reducible refine Kd.C_alloc ?_ _) | (with_reducible refine Kd.C_drewN ?_ _) | (with_reducible refine Kd.C_drew ?_))); (case side4 => exact HC0_1.out); (case side5 => repeat (first | exact (Kd.S_reads' HO_580003.out).2.2 | (with_reducible refine Kd.C_alloc ?_ _) | (with_reducible refine Kd.C_drewN ?_ _) | (with_reducible refine Kd.C_drew ?_))); (case side6 => exact (Kd.S_reads' HO_580003.out).2.1); rintro e w98 ⟨v592, v595, v599, rfl, ho0, ho1, ho2, hb⟩; refine ⟨_, rfl, ?_⟩; have n0_ := Aside0.mk (Kd.R_elder' (by (with_reducible repeat (first | apply Kd.R_alloc | apply Kd.R_drewN | apply Kd.R_drew)); exact HO_5.out) (Kd.R_base ho1) hb); have n1_ := Aside0.mk (Kd.S_elder' (by (with_reducible repeat (first | apply Kd.S_alloc | apply Kd.S_drewN | apply Kd.S_drew)); exact HO_580003.out) (Kd.R_base ho1) hb); have n2_ := Aside0.mk (Kd.R_lower ho0 (below_size (by repeat (first | (with_reducible first | exact HB.out | apply below_alloc | apply pw_below_drewN | apply below_drew1 | refine below_set ?_ GE557.out | refine below_set ?_ GE579.out) | exact HB.out)))); have n3_ := Aside0.mk (Kd.R_lower (Kd.R_new' ho1 (Kd.R_lt (by (with_reducible repeat (first | apply Kd.R_alloc | apply Kd.R_drewN | apply Kd.R_drew)); exact HO_5.out))) (below_size (by repeat (first | (with_reducible first | exact HB.out | apply below_alloc | apply pw_below_drewN | apply below_drew1 | refine below_set ?_ GE557.out | refine below_set ?_ GE579.out) | exact HB.out)))); have n4_ := Aside0.mk (Kd.S_lower (Kd.S_new' ho2 (Kd.R_lt (by (with_reducible repeat (first | apply Kd.R_alloc | apply Kd.R_drewN | apply Kd.R_drew)); exact HO_5.out))) (below_size (by repeat (first | (with_reducible first | exact HB.out | apply below_alloc | apply pw_below_drewN | apply below_drew1 | refine below_set ?_ GE557.out | refine below_set ?_ GE579.out) | exact HB.out)))); have n5_ := Aside0.mk (blk_below (g := gb557) (o := .cells #[.slice A0_0 l0_0.length c0_0, .slice A0_1 l0_1.length c0_1, .int .i64 a0_2, .slice A0_3 l0_3.length c0_3] 26 (0, 0)) (by (with_reducible repeat (first | refine blk_drewN ?_ _ | refine blk_drew ?_ | refine blk_alloc ?_ _)); exact BK557.out) hb); have n6_ := Aside0.mk (blk_below (g := gb579) (o := .cells #[.slice A0_0 l0_0.length c0_0, .slice A0_1 l0_1.length c0_1, .int .i64 a0_2, .slice Ao97 x580003_2.length co97] 26 (0, 0)) (by (with_reducible repeat (first | refine blk_drewN ?_ _ | refine blk_drew ?_ | refine blk_alloc ?_ _)); exact BK579.out) hb); have n7_ := Aside0.mk (below_step (by repeat (first | (with_reducible first | exact HB.out | apply below_alloc | apply pw_below_drewN | apply below_drew1 | refine below_set ?_ GE557.out | refine below_set ?_ GE579.out) | exact HB.out)) hb); clear HO_5; clear HO_580003; clear BK557; clear BK579; clear HB; have HO_5 := n0_; have HO_580003 := n1_; have HO593 := n2_; have HO596 := n3_; have HO600 := n4_; have BK557 := n5_; have BK579 := n6_; have HB := n7_; clear n0_ n1_ n2_ n3_ n4_ n5_ n6_ n7_; (try clear hb); (try clear hb2); (try clear hk); (try clear hi); (try clear ho0); (try clear ho1); (try clear ho2)) | ((with_reducible refine gate_callee (f := 22) rfl ?_); refine goesL_ (some 89) rfl rfl Try.func22 (by kernel_rfl) rfl #[.slice Ao16 x5_2.length co16] rfl (by (try simp only [List.map_toArray, List.map_cons, List.map_nil]); first | done | rfl | (simp only [List.length_drop, List.length_take]; rfl)) ?_; (with_reducible refine (tensilelaw08_list.calls _ _ x5_2 t601 _ ?side1 ?side2 A68.out).mono ?_); (case side1 => repeat (first | exact (Kd.R_reads' HO_5.out).2.2 | (with_reducible refine Kd.C_alloc ?_ _) | (with_reducible refine Kd.C_drewN ?_ _) | (with_reducible refine Kd.C_drew ?_))); (case side2 => exact (Kd.R_reads' HO_5.out).2.1); rintro e w99 ⟨v602, rfl, ho0, hb⟩; refine ⟨_, rfl, ?_⟩; have n0_ := Aside0.mk (Kd.R_elder' (by (with_reducible repeat (first | apply Kd.R_alloc | apply Kd.R_drewN | apply Kd.R_drew)); exact HO_5.out) (Kd.R_base ho0) hb); have n1_ := Aside0.mk (Kd.S_elder' (by (with_reducible repeat (first | apply Kd.S_alloc | apply Kd.S_drewN | apply Kd.S_drew)); exact HO_580003.out) (Kd.R_base ho0) hb); have n2_ := Aside0.mk (Kd.R_below (by (with_reducible repeat (first | apply Kd.R_alloc | apply Kd.R_drewN | apply Kd.R_drew)); exact HO593.out) hb); have n3_ := Aside0.mk (Kd.R_elder' (by (with_reducible repeat (first | apply Kd.R_alloc | apply Kd.R_drewN | apply Kd.R_drew)); exact HO596.out) (Kd.R_base ho0) hb); have n4_ := Aside0.mk (Kd.S_elder' (by (with_reducible repeat (first | apply Kd.S_alloc | apply Kd.S_drewN | apply Kd.S_drew)); exact HO600.out) (Kd.R_base ho0) hb); have n5_ := Aside0.mk (Kd.R_lower (Kd.R_new' (Kd.R_new' ho0 (Kd.R_lt (by (with_reducible repeat (first | apply Kd.R_alloc | apply Kd.R_drewN | apply Kd.R_drew)); exact HO_5.out))) (Kd.R_lt (by (with_reducible repeat (first | apply Kd.R_alloc | apply Kd.R_drewN | apply Kd.R_drew)); exact HO596.out))) (below_size (by repeat (first | (with_reducible first | exact HB.out | apply below_alloc | apply pw_below_drewN | apply below_drew1 | refine below_set ?_ GE557.out | refine below_set ?_ GE579.out) | exact HB.out)))); have n6_ := Aside0.mk (blk_below (g := gb557) (o := .cells #[.slice A0_0 l0_0.length c0_0, .slice A0_1 l0_1.length c0_1, .int .i64 a0_2, .slice A0_3 l0_3.length c0_3] 26 (0, 0)) (by (with_reducible repeat (first | refine blk_drewN ?_ _ | refine blk_drew ?_ | refine blk_alloc ?_ _)); exact BK557.out) hb); have n7_ := Aside0.mk (blk_below (g := gb579) (o := .cells #[.slice A0_0 l0_0.length c0_0, .slice A0_1 l0_1.length c0_1, .int .i64 a0_2, .slice Ao97 x580003_2.length co97] 26 (0, 0)) (by (with_reducible repeat (first | refine blk_drewN ?_ _ | refine blk_drew ?_ | refine blk_alloc ?_ _)); exact BK579.out) hb); have n8_ := Aside0.mk (below_step (by repeat (first | (with_reducible first | exact HB.out | apply below_alloc | apply pw_below_drewN | apply below_drew1 | refine below_set ?_ GE557.out | refine below_set ?_ GE579.out) | exact HB.out)) hb); clear HO_5; clear HO_580003; clear HO593; clear HO596; clear HO600; clear BK557; clear BK579; clear HB; have HO_5 := n0_; have HO_580003 := n1_; have HO593 := n2_; have HO596 := n3_; have HO600 := n4_; have HO603 := n5_; have BK557 := n6_; have BK579 := n7_; have HB := n8_; clear n0_ n1_ n2_ n3_ n4_ n5_ n6_ n7_ n8_; (try clear hb); (try clear hb2); (try clear hk); (try clear hi); (try clear ho0); obtain ⟨Ao100, co100, eo100⟩ := Kd.R_slice HO593.out; subst eo100; obtain ⟨Ao101, co101, eo101⟩ := Kd.R_slice HO596.out; subst eo101; obtain ⟨Ao102, co102, eo102⟩ := Kd.S_slice HO600.out; subst eo102; obtain ⟨Ao103, co103, eo103⟩ := Kd.R_slice HO603.out; subst eo103) | ((with_reducible refine gate_callee (f := 21) rfl ?_); refine goesL_ (some 90) rfl rfl Try.func21 (by kernel_rfl) rfl #[.agg #[.slice Ao100 t591.length co100, .slice Ao101 t594.length co101, .int .i64 t597, .slice Ao102 t598.length co102], .slice Ao103 t601.length co103] rfl (by (try simp only [List.map_toArray, List.map_cons, List.map_nil]); first | done | rfl | (simp only [List.length_drop, List.length_take]; rfl)) ?_; (with_reducible refine (round_Explains.calls _ _ t591 _ _ t594 t597 _ _ t598 _ _ t601 t604 t605 _ ?side1 ?side2 ?side3 ?side4 ?side5 ?side6 ?side7 ?side8 A69.out).mono ?_); (case side1 => repeat (first | exact (Kd.R_reads' HO593.out).2.2 | (with_reducible refine Kd.C_alloc ?_ _) | (with_reducible refine Kd.C_drewN ?_ _) | (with_reducible refine Kd.C_drew ?_))); (case side2 => exact (Kd.R_reads' HO593.out).2.1); (case side3 => repeat (first | exact (Kd.R_reads' HO596.out).2.2 | (with_reducible refine Kd.C_alloc ?_ _) | (with_reducible refine Kd.C_drewN ?_ _) | (with_reducible refine Kd.C_drew ?_))); (case side4 => exact (Kd.R_reads' HO596.out).2.1); (case side5 => repeat (first | exact (Kd.S_reads' HO600.out).2.2 | (with_reducible refine Kd.C_alloc ?_ _) | (with_reducible refine Kd.C_drewN ?_ _) | (with_reducible refine Kd.C_drew ?_))); (case side6 => exact (Kd.S_reads' HO600.out).2.1); (case side7 => repeat (first | exact (Kd.R_reads' HO603.out).2.2 | (with_reducible refine Kd.C_alloc ?_ _) | (with_reducible refine Kd.C_drewN ?_ _) | (with_reducible refine Kd.C_drew ?_))); (case side8 => exact (Kd.R_reads' HO603.out).2.1); rintro e w104 ⟨rfl, hb⟩; refine ⟨_, rfl, ?_⟩; have n0_ := Aside0.mk (Kd.R_below (by (with_reducible repeat (first | apply Kd.R_alloc | apply Kd.R_drewN | apply Kd.R_drew)); exact HO_5.out) hb); have n1_ := Aside0.mk (Kd.S_below (by (with_reducible repeat (first | apply Kd.S_alloc | apply Kd.S_drewN | apply Kd.S_drew)); exact HO_580003.out) hb); have n2_ := Aside0.mk (Kd.R_below (by (with_reducible repeat (first | apply Kd.R_alloc | apply Kd.R_drewN | apply Kd.R_drew)); exact HO593.out) hb); have n3_ := Aside0.mk (Kd.R_below (by (with_reducible repeat (first | apply Kd.R_alloc | apply Kd.R_drewN | apply Kd.R_drew)); exact HO596.out) hb); have n4_ := Aside0.mk (Kd.S_below (by (with_reducible repeat (first | apply Kd.S_alloc | apply Kd.S_drewN | apply Kd.S_drew)); exact HO600.out) hb); have n5_ := Aside0.mk (Kd.R_below (by (with_reducible repeat (first | apply Kd.R_alloc | apply Kd.R_drewN | apply Kd.R_drew)); exact HO603.out) hb); have n6_ := Aside0.mk (blk_below (g := gb557) (o := .cells #[.slice A0_0 l0_0.length c0_0, .slice A0_1 l0_1.length c0_1, .int .i64 a0_2, .slice A0_3 l0_3.length c0_3] 26 (0, 0)) (by (with_reducible repeat (first | refine blk_drewN ?_ _ | refine blk_drew ?_ | refine blk_alloc ?_ _)); exact BK557.out) hb); have n7_ := Aside0.mk (blk_below (g := gb579) (o := .cells #[.slice A0_0 l0_0.length c0_0, .slice A0_1 l0_1.length c0_1, .int .i64 a0_2, .slice Ao97 x580003_2.length co97] 26 (0, 0)) (by (with_reducible repeat (first | refine blk_drewN ?_ _ | refine blk_drew ?_ | refine blk_alloc ?_ _)); exact BK579.out) hb); have n8_ := Aside0.mk (below_step (by repeat (first | (with_reducible first | exact HB.out | apply below_alloc | apply pw_below_drewN | apply below_drew1 | refine below_set ?_ GE557.out | refine below_set ?_ GE579.out) | exact HB.out)) hb); clear HO_5; clear HO_580003; clear HO593; clear HO596; clear HO600; clear HO603; clear BK557; clear BK579; clear HB; have HO_5 := n0_; have HO_580003 := n1_; have HO593 := n2_; have HO596 := n3_; have HO600 := n4_; have HO603 := n5_; have BK557 := n6_; have BK579 := n7_; have HB := n8_; clear n0_ n1_ n2_ n3_ n4_ n5_ n6_ n7_ n8_; (try clear hb); (try clear hb2); (try clear hk); (try clear hi)))
         go_ret
         exact ⟨by first | rfl | (simp [errW_none, errW_some] <;> rfl) | (simp [*, errW_none, errW_some] <;> rfl), by repeat (first | (with_reducible first | exact HB.out | apply below_alloc | apply pw_below_drewN | apply below_drew1 | refine below_set ?_ GE557.out | refine below_set ?_ GE579.out) | exact HB.out)⟩
    ·rw [if_neg c23] at H
     have c23b0 : decide (x9_1 < (l0_0.length : Int)) = false := decide_eq_false c23
     clear c23
     by_cases c105 : t577 = 0
     ·rw [if_pos c105] at H
      have c105b0 : (t577 == 0) = true := beq_iff_eq.mpr c105
      have c105b1 : (t577 != 0) = false := bne_eq_false_iff_eq.mpr c105
      clear c105
      by_cases c106 : (t576 == x8_1) = true
      ·rw [if_pos c106] at H
       have c106b0 : (t576 == x8_1) = true := c106
       (try (have c106b1 : decide (t576 = x8_1) = true := by simpa using c106))
       (try (have c106b2 : (t576 == x8_1) = true := by simpa using c106))
       clear c106
       replace H := Option.bind_eq_some_iff.mp H
       obtain ⟨t578, A1070, H⟩ := H
       replace H : (some t578) = some r := H
       have A107 := Aside0.mk A1070
       clear A1070
       obtain rfl := Option.some.inj H
       have hcz108_0 : wr.cell? ⟨gb557, 0, none⟩ = some (.slice A0_0 l0_0.length c0_0) := (blk_cell BK557.out 0).trans rfl
       have hcz108_1 : wr.cell? ⟨gb557, 1, none⟩ = some (.slice A0_1 l0_1.length c0_1) := (blk_cell BK557.out 1).trans rfl
       have hcz108_2 : wr.cell? ⟨gb557, 2, none⟩ = some (.int .i64 a0_2) := (blk_cell BK557.out 2).trans rfl
       have hcz108_3 : wr.cell? ⟨gb557, 3, none⟩ = some (.slice A0_3 l0_3.length c0_3) := (blk_cell BK557.out 3).trans rfl
       have hfz108_0 := blk_frozen BK557.out 0
       have hfz108_1 := blk_frozen BK557.out 1
       have hfz108_2 := blk_frozen BK557.out 2
       have hfz108_3 := blk_frozen BK557.out 3
       go_wp2_with (first | (go_at_call 18; (with_reducible refine (tensilelaw08_wakes.calls  t578 _ A107.out).mono ?_); rintro e w109 ⟨rfl, hb⟩; have n0_ := Aside0.mk (Kd.R_below (by (with_reducible repeat (first | apply Kd.R_alloc | apply Kd.R_drewN | apply Kd.R_drew)); exact HO_5.out) hb); have n1_ := Aside0.mk (blk_below (g := gb557) (o := .cells #[.slice A0_0 l0_0.length c0_0, .slice A0_1 l0_1.length c0_1, .int .i64 a0_2, .slice A0_3 l0_3.length c0_3] 26 (0, 0)) (by (with_reducible repeat (first | refine blk_drewN ?_ _ | refine blk_drew ?_ | refine blk_alloc ?_ _)); exact BK557.out) hb); have n2_ := Aside0.mk (below_step (by repeat (first | (with_reducible first | exact HB.out | apply below_alloc | apply pw_below_drewN | apply below_drew1 | refine below_set ?_ GE557.out) | exact HB.out)) hb); clear HO_5; clear BK557; clear HB; have HO_5 := n0_; have BK557 := n1_; have HB := n2_; clear n0_ n1_ n2_; (try clear hb); (try clear hb2); (try clear hk); (try clear hi)))
       go_ret
       exact ⟨by first | rfl | (simp [errW_none, errW_some] <;> rfl) | (simp [*, errW_none, errW_some] <;> rfl), by repeat (first | (with_reducible first | exact HB.out | apply below_alloc | apply pw_below_drewN | apply below_drew1 | refine below_set ?_ GE557.out) | exact HB.out)⟩
      ·rw [if_neg c106] at H
       have c106b0 : (t576 == x8_1) = false := by simpa using c106
       (try (have c106b1 : decide (t576 = x8_1) = false := by simpa using c106))
       (try (have c106b2 : (t576 == x8_1) = false := by simpa using c106))
       (try (have c106b3 : ¬ (t576 = x8_1) := by simpa using c106))
       clear c106
       obtain rfl := Option.some.inj H
       have hcz110_0 : wr.cell? ⟨gb557, 0, none⟩ = some (.slice A0_0 l0_0.length c0_0) := (blk_cell BK557.out 0).trans rfl
       have hcz110_1 : wr.cell? ⟨gb557, 1, none⟩ = some (.slice A0_1 l0_1.length c0_1) := (blk_cell BK557.out 1).trans rfl
       have hcz110_2 : wr.cell? ⟨gb557, 2, none⟩ = some (.int .i64 a0_2) := (blk_cell BK557.out 2).trans rfl
       have hcz110_3 : wr.cell? ⟨gb557, 3, none⟩ = some (.slice A0_3 l0_3.length c0_3) := (blk_cell BK557.out 3).trans rfl
       have hfz110_0 := blk_frozen BK557.out 0
       have hfz110_1 := blk_frozen BK557.out 1
       have hfz110_2 := blk_frozen BK557.out 2
       have hfz110_3 := blk_frozen BK557.out 3
       go_wp2
       go_ret
       exact ⟨by first | rfl | (simp [errW_none, errW_some] <;> rfl) | (simp [*, errW_none, errW_some] <;> rfl), by repeat (first | (with_reducible first | exact HB.out | apply below_alloc | apply pw_below_drewN | apply below_drew1 | refine below_set ?_ GE557.out) | exact HB.out)⟩
     ·rw [if_neg c105] at H
      have c105b0 : (t577 == 0) = false := beq_eq_false_iff_ne.mpr c105
      have c105b1 : (t577 != 0) = true := bne_iff_ne.mpr c105
      obtain rfl := Option.some.inj H
      have hcz111_0 : wr.cell? ⟨gb557, 0, none⟩ = some (.slice A0_0 l0_0.length c0_0) := (blk_cell BK557.out 0).trans rfl
      have hcz111_1 : wr.cell? ⟨gb557, 1, none⟩ = some (.slice A0_1 l0_1.length c0_1) := (blk_cell BK557.out 1).trans rfl
      have hcz111_2 : wr.cell? ⟨gb557, 2, none⟩ = some (.int .i64 a0_2) := (blk_cell BK557.out 2).trans rfl
      have hcz111_3 : wr.cell? ⟨gb557, 3, none⟩ = some (.slice A0_3 l0_3.length c0_3) := (blk_cell BK557.out 3).trans rfl
      have hfz111_0 := blk_frozen BK557.out 0
      have hfz111_1 := blk_frozen BK557.out 1
      have hfz111_2 := blk_frozen BK557.out 2
      have hfz111_3 := blk_frozen BK557.out 3
      go_wp2
      go_ret
      exact ⟨by first | rfl | (simp [errW_none, errW_some] <;> rfl) | (simp [*, errW_none, errW_some] <;> rfl), by repeat (first | (with_reducible first | exact HB.out | apply below_alloc | apply pw_below_drewN | apply below_drew1 | refine below_set ?_ GE557.out) | exact HB.out)⟩
 ·replace c4 := Bool.eq_false_iff.mpr c4
  subst c4
  have H1 : ((tensilelaw08_wakes.f).bind fun t559 => (some t559)) = some r := by rw [if_neg (show ¬ (false = true) by decide)] at H; exact H
  clear H
  have H := H1
  clear H1
  replace H := Option.bind_eq_some_iff.mp H
  obtain ⟨t559, A1120, H⟩ := H
  replace H : (some t559) = some r := H
  have A112 := Aside0.mk A1120
  clear A1120
  obtain rfl := Option.some.inj H
  go_enter Try.func10, Try.ntmps10
  go_wp2_with (first | ((with_reducible refine gate_dst (N := 2) rfl ?_); refine box_event ?hg (N := 2) ?hd (cs := #[.slice A0_0 l0_0.length c0_0, .slice A0_1 l0_1.length c0_1, .int .i64 a0_2, .slice A0_3 l0_3.length c0_3]) (t := 26) ?hr ?_; (case hd => rfl); (case hg => rfl); (case hr => first | (go_simp; done) | (go_simp; rfl)); intro gb557 hg w113 hbox hb; have n0_ := Aside0.mk (below_step (by repeat (first | (with_reducible first | exact HB.out | apply below_alloc | apply pw_below_drewN | apply below_drew1) | exact HB.out)) hb); have n1_ := Aside0.mk (hbox); have n2_ := Aside0.mk ((by rw [hg]; exact (below_size (by repeat (first | (with_reducible first | exact HB.out | apply below_alloc | apply pw_below_drewN | apply below_drew1) | exact HB.out))) : w.heap.size ≤ gb557)); have n3_ := Aside0.mk ((by rw [hg]; exact (below_size (by repeat (first | (with_reducible first | exact HB.out | apply below_alloc | apply pw_below_drewN | apply below_drew1) | exact HB.out))) : w.heap.size ≤ gb557)); clear HB; have HB := n0_; have BK557 := n1_; have GW557 := n2_; have GE557 := n3_; clear n0_ n1_ n2_ n3_; clear hb hbox hg; have hcz114_0 : w113.cell? ⟨gb557, 0, none⟩ = some (.slice A0_0 l0_0.length c0_0) := (blk_cell BK557.out 0).trans rfl; have hcz114_1 : w113.cell? ⟨gb557, 1, none⟩ = some (.slice A0_1 l0_1.length c0_1) := (blk_cell BK557.out 1).trans rfl; have hcz114_2 : w113.cell? ⟨gb557, 2, none⟩ = some (.int .i64 a0_2) := (blk_cell BK557.out 2).trans rfl; have hcz114_3 : w113.cell? ⟨gb557, 3, none⟩ = some (.slice A0_3 l0_3.length c0_3) := (blk_cell BK557.out 3).trans rfl; have hfz114_0 := blk_frozen BK557.out 0; have hfz114_1 := blk_frozen BK557.out 1; have hfz114_2 := blk_frozen BK557.out 2; have hfz114_3 := blk_frozen BK557.out 3) | ((with_reducible refine gate_callee (f := 35) rfl ?_); refine goesL_ (some 17) rfl rfl Try.func35 (by kernel_rfl) rfl #[.agg #[.slice A0_0 l0_0.length c0_0, .slice A0_1 l0_1.length c0_1, .int .i64 a0_2, .slice A0_3 l0_3.length c0_3]] rfl (by (try simp only [List.map_toArray, List.map_cons, List.map_nil]); first | done | rfl | (simp only [List.length_drop, List.length_take]; rfl)) ?_; (with_reducible refine (tensilelaw08_ready.calls k _ _ l0_0 _ _ l0_1 a0_2 _ _ l0_3 false _ ?side1 ?side2 ?side3 ?side4 ?side5 ?side6 A3.out).mono ?_); (case side1 => repeat (first | exact (Kd.C_below HR0_0.out HB.out) | (with_reducible refine Kd.C_alloc ?_ _) | (with_reducible refine Kd.C_drewN ?_ _) | (with_reducible refine Kd.C_drew ?_))); (case side2 => exact HC0_0.out); (case side3 => repeat (first | exact (Kd.C_below HR0_1.out HB.out) | (with_reducible refine Kd.C_alloc ?_ _) | (with_reducible refine Kd.C_drewN ?_ _) | (with_reducible refine Kd.C_drew ?_))); (case side4 => exact HC0_1.out); (case side5 => repeat (first | exact (Kd.C_below HR0_3.out HB.out) | (with_reducible refine Kd.C_alloc ?_ _) | (with_reducible refine Kd.C_drewN ?_ _) | (with_reducible refine Kd.C_drew ?_))); (case side6 => exact HC0_3.out); rintro e w115 ⟨rfl, hb⟩; refine ⟨_, rfl, ?_⟩; have n0_ := Aside0.mk (blk_below (g := gb557) (o := .cells #[.slice A0_0 l0_0.length c0_0, .slice A0_1 l0_1.length c0_1, .int .i64 a0_2, .slice A0_3 l0_3.length c0_3] 26 (0, 0)) (by (with_reducible repeat (first | refine blk_drewN ?_ _ | refine blk_drew ?_ | refine blk_alloc ?_ _)); exact BK557.out) hb); have n1_ := Aside0.mk (below_step (by repeat (first | (with_reducible first | exact HB.out | apply below_alloc | apply pw_below_drewN | apply below_drew1 | refine below_set ?_ GE557.out) | exact HB.out)) hb); clear BK557; clear HB; have BK557 := n0_; have HB := n1_; clear n0_ n1_; (try clear hb); (try clear hb2); (try clear hk); (try clear hi)) | ((with_reducible refine gate_callee (f := 18) rfl ?_); refine goesL_ (some 19) rfl rfl Try.func18 (by kernel_rfl) rfl #[] rfl (by (try simp only [List.map_toArray, List.map_cons, List.map_nil]); first | done | rfl | (simp only [List.length_drop, List.length_take]; rfl)) ?_; (with_reducible refine (tensilelaw08_wakes.calls  t559 _ A112.out).mono ?_); rintro e w116 ⟨rfl, hb⟩; refine ⟨_, rfl, ?_⟩; have n0_ := Aside0.mk (blk_below (g := gb557) (o := .cells #[.slice A0_0 l0_0.length c0_0, .slice A0_1 l0_1.length c0_1, .int .i64 a0_2, .slice A0_3 l0_3.length c0_3] 26 (0, 0)) (by (with_reducible repeat (first | refine blk_drewN ?_ _ | refine blk_drew ?_ | refine blk_alloc ?_ _)); exact BK557.out) hb); have n1_ := Aside0.mk (below_step (by repeat (first | (with_reducible first | exact HB.out | apply below_alloc | apply pw_below_drewN | apply below_drew1 | refine below_set ?_ GE557.out) | exact HB.out)) hb); clear BK557; clear HB; have BK557 := n0_; have HB := n1_; clear n0_ n1_; (try clear hb); (try clear hb2); (try clear hk); (try clear hi)))
  go_ret
  exact ⟨by first | rfl | (simp [errW_none, errW_some] <;> rfl) | (simp [*, errW_none, errW_some] <;> rfl), by repeat (first | (with_reducible first | exact HB.out | apply below_alloc | apply pw_below_drewN | apply below_drew1 | refine below_set ?_ GE557.out) | exact HB.out)⟩
end Go.Proofs.Ytcpbhklaffgokaa.Q
namespace Go.Proofs.Ytcpbhklaffgokaa.Q
open Go.RowKit Go.Proofs.YtcpbhklaffgokaaW.PrintWords Go.Proofs.YtcpbhklaffgokaaW.PrintLast Go.Proofs.YtcpbhklaffgokaaW.PrintMore
set_option linter.unusedVariables false
set_option linter.unusedSimpArgs false
def maskS (L : Int) : List Int → List Int → List Int
 | s :: ss, y :: ys => (if s = L then y else -1) :: maskS L ss ys
 | [], ys => ys
 | _ :: _, [] => []
theorem maskS_length (L : Int) : ∀ (ss ys : List Int), (maskS L ss ys).length = ys.length := by
 intro ss
 induction ss with
 | nil => intro ys; cases ys <;> rfl
 | cons s ss ih =>
  intro ys
  cases ys with
  | nil => rfl
  | cons y ys => simp only [maskS, List.length_cons, ih]
theorem maskS_step (L : Int) : ∀ (ss ys : List Int) (i : Nat), i < ss.length → i < ys.length → maskS L (ss.take (i + 1)) ys = if ss.getD i 0 = L then maskS L (ss.take i) ys else (maskS L (ss.take i) ys).set i (-1) := by
 intro ss
 induction ss with
 | nil => intro ys i h _; exact absurd h (Nat.not_lt_zero _)
 | cons s ss ih =>
  intro ys i h1 h2
  cases ys with
  | nil => exact absurd h2 (Nat.not_lt_zero _)
  | cons y ys =>
   cases i with
   | zero =>
    have e : ∀ zs : List Int, maskS L [] zs = zs := fun zs => by cases zs <;> rfl
    simp only [List.take_succ_cons, List.take_zero, maskS, e, List.getD_cons_zero, List.set_cons_zero]
    split <;> rfl
   | succ i =>
    simp only [List.take_succ_cons, maskS, List.getD_cons_succ, List.set_cons_succ]
    rw [ih ys i (by simpa using h1) (by simpa using h2)]
    by_cases e : ss.getD i 0 = L
    ·rw [if_pos e, if_pos e]
    ·rw [if_neg e, if_neg e]
theorem maskS_get (L : Int) : ∀ (ss ys : List Int) (i : Nat), i < ss.length → i < ys.length → (maskS L ss ys).getD i 0 = if ss.getD i 0 = L then ys.getD i 0 else -1 := by
 intro ss
 induction ss with
 | nil => intro ys i h _; exact absurd h (Nat.not_lt_zero _)
 | cons s ss ih =>
  intro ys i h1 h2
  cases ys with
  | nil => exact absurd h2 (Nat.not_lt_zero _)
  | cons y ys =>
   cases i with
   | zero => rfl
   | succ i =>
    simp only [maskS, List.getD_cons_succ]
    exact ih ys i (by simpa using h1) (by simpa using h2)
theorem maskS_mem (L : Int) : ∀ (ss ys : List Int) (x : Int), x ∈ maskS L ss ys → x = -1 ∨ x ∈ ys := by
 intro ss
 induction ss with
 | nil => intro ys x h; right; cases ys <;> exact h
 | cons s ss ih =>
  intro ys x h
  cases ys with
  | nil => cases h
  | cons y ys =>
   simp only [maskS, List.mem_cons] at h
   rcases h with h | h
   ·by_cases e : s = L
    ·rw [if_pos e] at h; right; rw [h]; exact List.mem_cons_self
    ·rw [if_neg e] at h; exact .inl h
   ·rcases ih ys x h with h | h
    ·exact .inl h
    ·exact .inr (List.mem_cons_of_mem _ h)
def maskL (L : Int) (samples : List Int) (x : S62) : S62 := ⟨x.f0, maskS L samples x.f1⟩
section
variable {lots : List S44} {samples : List Int} {spread : Int} {labs : List S62}
theorem mask_ok (hok : RoundOk (lots.map m46) samples spread (labs.map m75)) (L : Int) : RoundOk (lots.map m46) samples spread ((labs.map (maskL L samples)).map m75) := by
 obtain ⟨l0, l4, s8, b6, hlot, hsmp, sp0, sp1, hlab⟩ := hok
 refine ⟨l0, l4, s8, by simpa using b6, hlot, hsmp, sp0, sp1, fun x hx => ?_⟩
 obtain ⟨y, hy, rfl⟩ := List.mem_map.1 hx
 obtain ⟨z, hz, rfl⟩ := List.mem_map.1 hy
 obtain ⟨a, b, c, d⟩ := hlab _ (List.mem_map_of_mem hz)
 refine ⟨a, b, ?_, fun n hn => ?_⟩
 ·show (maskS L samples z.f1).length = samples.length
  rw [maskS_length]
  exact c
 ·rcases maskS_mem L samples z.f1 n hn with rfl | h
  ·omega
  ·exact d n h
theorem mask_samp (hok : RoundOk (lots.map m46) samples spread (labs.map m75)) (L : Int) (o : Nat → Bool) (lab d v : Int) (i : Nat) (hi : i < samples.length) :
  inR v (sampR ((labs.map (maskL L samples)).map m75) o lab d (i : Int)) ↔ inR v far2 ∧ (samples.getD i 0 = L → inR v (sampR (labs.map m75) o lab d (i : Int))) := by
 rw [sampR_iff, sampR_iff]
 have hg : ∀ j, j < labs.length → ((labs.map (maskL L samples)).map m75).getD j z75 = m75 (maskL L samples (labs.getD j z62)) := by
  intro j hj
  rw [getD75, List.getD_eq_getElem?_getD, List.getElem?_map, List.getD_eq_getElem?_getD, List.getElem?_eq_getElem hj]
  rfl
 have hr : ∀ j, j < labs.length → rdL (m75 (maskL L samples (labs.getD j z62))) (i : Int) = if samples.getD i 0 = L then rdL (m75 (labs.getD j z62)) (i : Int) else -1 := by
  intro j hj
  have hm : labs.getD j z62 ∈ labs := by
   rw [List.getD_eq_getElem?_getD, List.getElem?_eq_getElem hj]
   exact List.getElem_mem _
  obtain ⟨_, _, c, _⟩ := hok.labs _ (List.mem_map_of_mem hm)
  have c' : (labs.getD j z62).f1.length = samples.length := c
  show rd (maskS L samples (labs.getD j z62).f1) (i : Int) = _
  rw [show ∀ xs : List Int, rd xs (i : Int) = xs.getD i 0 from fun xs => by unfold rd; rw [Int.toNat_natCast], maskS_get _ _ _ _ hi (by omega)]
  rfl
 have hlen : ((labs.map (maskL L samples)).map m75).length = labs.length := by simp
 have hlen2 : (labs.map m75).length = labs.length := by simp
 constructor
 ·rintro ⟨h1, h2⟩
  refine ⟨h1, fun hL => ⟨h1, fun j hj ho hn => ?_⟩⟩
  rw [hlen2] at hj
  rw [getD75] at hn ⊢
  have := h2 j (by omega) ho (by rw [hg j hj, hr j hj, if_pos hL]; exact hn)
  rw [hg j hj] at this
  unfold rangeOf at this ⊢
  rw [hr j hj, if_pos hL] at this
  exact this
 ·rintro ⟨h1, h2⟩
  refine ⟨h1, fun j hj ho hn => ?_⟩
  rw [hlen] at hj
  rw [hg j hj] at hn ⊢
  rw [hr j hj] at hn
  by_cases hL : samples.getD i 0 = L
  ·rw [if_pos hL] at hn
   have := (h2 hL).2 j (by omega) ho (by rw [getD75]; exact hn)
   rw [getD75] at this
   unfold rangeOf at this ⊢
   rw [hr j hj, if_pos hL]
   exact this
  ·rw [if_neg hL] at hn
   exact absurd rfl hn
theorem mask_can (hok : RoundOk (lots.map m46) samples spread (labs.map m75)) (o : Nat → Bool) (L : Nat) (hL : L < lots.length) :
  canF (lots.map m46) samples spread ((labs.map (maskL (L : Int) samples)).map m75) o = true ↔ ∃ v, inR v ((lots.map m46).getD L z46) ∧ fitsP (labs.map m75) samples spread o (-1) 0 L v := by
 have hsp := hok.sp0
 have hs : ∀ i, i < samples.length → ((samples.getD i 0).toNat = L ↔ samples.getD i 0 = (L : Int)) := by
  intro i hi
  have := hok.smp (samples.getD i 0) (by rw [List.getD_eq_getElem?_getD, List.getElem?_eq_getElem hi]; exact List.getElem_mem _)
  omega
 unfold canF
 rw [can_iff (mask_ok hok (L : Int))]
 have hlot : ∀ K, K < lots.length → ∀ v, inR v ((lots.map m46).getD K z46) → 0 ≤ v ∧ v ≤ 1000 := by
  intro K hK v hv
  have := hok.lot ((lots.map m46).getD K z46) (by
   rw [List.getD_eq_getElem?_getD, List.getElem?_eq_getElem (by rw [List.length_map]; exact hK)]
   exact List.getElem_mem _)
  unfold inR at hv
  omega
 have hsp1 := hok.sp1
 constructor
 ·intro h
  obtain ⟨v, h1, h2⟩ := h L (by rw [List.length_map]; exact hL)
  refine ⟨v, h1, fun i hi e => ?_⟩
  obtain ⟨u, a, b, c⟩ := h2 i hi e
  exact ⟨u, ((mask_samp hok _ _ _ _ _ i hi).1 a).2 ((hs i hi).1 e), b, c⟩
 ·rintro ⟨v, h1, h2⟩ K hK
  rw [List.length_map] at hK
  by_cases hKL : K = L
  ·subst hKL
   refine ⟨v, h1, fun i hi e => ?_⟩
   obtain ⟨u, a, b, c⟩ := h2 i hi e
   have := hlot K hK v h1
   exact ⟨u, (mask_samp hok _ _ _ _ _ i hi).2 ⟨inR_far u (by omega) (by omega), fun _ => a⟩, b, c⟩
  ·have hl := hok.lot ((lots.map m46).getD K z46) (by
    rw [List.getD_eq_getElem?_getD, List.getElem?_eq_getElem (by rw [List.length_map]; exact hK)]
    exact List.getElem_mem _)
   refine ⟨((lots.map m46).getD K z46).f0, ⟨Int.le_refl _, hl.2.1⟩, fun i hi e => ⟨((lots.map m46).getD K z46).f0, (mask_samp hok _ _ _ _ _ i hi).2 ⟨inR_far _ (by omega) (by omega), fun e2 => ?_⟩, by omega, by omega⟩⟩
   have := (hs i hi).2 e2
   omega
end
theorem RoundApart_pure (lots : List S44) (samples : List Int) (spread : Int) (labs : List S62) (bits : Int) (hs : Sz lots samples labs) : ∃ k, tensilelaw08_RoundApart.f k lots samples spread labs bits = some true := by
 refine Ev_rounds (g := fun k => tensilelaw08_RoundApart.f k lots samples spread labs bits) ?_
 unfold tensilelaw08_RoundApart.f
 obtain ⟨b, hb, ht⟩ := ready_ev lots samples spread labs hs
 refine Ev.bind hb ?_
 cases b with
 | false => exact Ev.congr (fun k => by rw [if_neg (by decide), wakes_eq, Option.bind_some]) (Ev.now _)
 | true =>
  obtain ⟨hth, hok⟩ := ht rfl
  have h6 : labs.length ≤ 6 := by have := hok.b6; rwa [List.length_map] at this
  have h4 : lots.length ≤ 4 := by have := hok.l4; rwa [List.length_map] at this
  have h8 := hok.s8
  have hcl := chosenF_length labs.length bits
  have hcr := chosenF_rising labs.length bits
  refine Ev.congr (fun k => by rw [if_pos rfl]) ?_
  refine Ev.bind (chosen_ev lots samples spread labs bits h6) ?_
  generalize chosenF labs.length bits = off at hcl hcr ⊢
  have hx := explainsF_ok hok (l := off) (by rw [List.length_map]; exact hcr)
  refine Ev.bind (Round_ev lots samples spread labs hth) ?_
  refine Ev.congr (fun k => by rw [list_eq _ (by omega), Option.bind_some, Explains_eq _ _ _ _ _ (by omega), Option.bind_some, hx]) ?_
  simp only
  have one : ∀ (L : Nat) (e : Bool), L < lots.length → Ev (fun k => tensilelaw08_RoundApart.l0 k off (canF (lots.map m46) samples spread (labs.map m75) (offOf off)) 0 (e && canF (lots.map m46) samples spread ((labs.map (maskL (L : Int) samples)).map m75) (offOf off)) (((L + 1 : Nat)) : Int) lots samples spread labs) true →
    Ev (fun k => tensilelaw08_RoundApart.l0 k off (canF (lots.map m46) samples spread (labs.map m75) (offOf off)) 0 e (L : Int) lots samples spread labs) true := by
   intro L e hL hR
   refine Ev.step (fun k => by simp only [tensilelaw08_RoundApart.l0]; rw [if_pos (by omega)]) ?_
   have hokL := mask_ok hok (L : Int)
   have hxL := explainsF_ok hokL (l := off) (by simpa using hcr)
   have hthL : ThinR lots samples (labs.map (maskL (L : Int) samples)) := ⟨hth.a, hth.b, by simpa using hth.c, fun x hx => by
    obtain ⟨y, hy, rfl⟩ := List.mem_map.1 hx
    show (maskS (L : Int) samples y.f1).length ≤ 10
    rw [maskS_length]
    exact hth.d y hy⟩
   have lab1 : ∀ (d j : Nat), labs.length - j = d → j ≤ labs.length → Ev (fun k => tensilelaw08_RoundApart.l1 k off (canF (lots.map m46) samples spread (labs.map m75) (offOf off)) 0 e (L : Int) (j : Int) lots samples spread labs lots samples spread ((labs.take j).map (maskL (L : Int) samples))) true := by
    intro d
    induction d with
    | zero =>
     intro j hd hj
     rw [List.take_of_length_le (by omega)]
     refine Ev.step (fun k => by simp only [tensilelaw08_RoundApart.l1]; rw [if_neg (by omega)]) ?_
     refine Ev.bind (Round_ev lots samples spread _ hthL) ?_
     refine Ev.congr (fun k => by rw [list_eq _ (by omega), Option.bind_some, Explains_eq _ _ _ _ _ (by omega), Option.bind_some, hxL, if_pos rfl]) ?_
     rw [← wr1 L _ hL (by omega)] at hR
     cases e with
     | true => exact Ev.congr (fun k => by rw [if_pos rfl]) (by simpa using hR)
     | false => exact Ev.congr (fun k => by rw [if_neg (by decide)]) (by simpa using hR)
    | succ d ih =>
     intro j hd hj
     have hlt : j < labs.length := by omega
     have h := ih (j + 1) (by omega) (by omega)
     have hje : labs[j] = rd_T62 labs (j : Int) := by rw [rd_T62, Int.toNat_natCast, List.getD_eq_getElem?_getD, List.getElem?_eq_getElem hlt]; rfl
     rw [← wr1 j _ hlt (by omega), List.take_succ_eq_append_getElem hlt, List.map_append, List.map_singleton, hje] at h
     have hyl : (rd_T62 labs (j : Int)).f1.length = samples.length := (hok.labs _ (List.mem_map_of_mem (hje ▸ List.getElem_mem hlt))).2.2.1
     refine Ev.step (fun k => by simp only [tensilelaw08_RoundApart.l1]; rw [if_pos (by omega), if_pos (by omega), list_eq _ (by omega), Option.bind_some]) ?_
     have htl : ((labs.take j).map (maskL (L : Int) samples)).length ≤ 6 := by rw [List.length_map, List.length_take]; omega
     have smp : ∀ (d i : Nat), samples.length - i = d → i ≤ samples.length → Ev (fun k => tensilelaw08_RoundApart.l2 k off (canF (lots.map m46) samples spread (labs.map m75) (offOf off)) 0 e (L : Int) (j : Int) (i : Int) lots samples spread labs lots samples spread ((labs.take j).map (maskL (L : Int) samples)) (rd_T62 labs (j : Int)).f0 (maskS (L : Int) (samples.take i) (rd_T62 labs (j : Int)).f1)) true := by
      intro d
      induction d with
      | zero =>
       intro i hd hi
       rw [List.take_of_length_le (show samples.length ≤ i by omega)]
       exact Ev.step (fun k => by simp only [tensilelaw08_RoundApart.l2]; rw [if_neg (by omega), if_pos (by omega)]; rfl) h
      | succ d ihs =>
       intro i hd hi
       have hlti : i < samples.length := by omega
       have hn := ihs (i + 1) (by omega) (by omega)
       rw [← wr1 i _ hlti (by omega), maskS_step _ _ _ _ hlti (by omega)] at hn
       have hrd : rd samples (i : Int) = samples.getD i 0 := by unfold rd; rw [Int.toNat_natCast]
       by_cases hL2 : samples.getD i 0 = (L : Int)
       ·rw [if_pos hL2] at hn
        exact Ev.step (fun k => by simp only [tensilelaw08_RoundApart.l2]; rw [if_pos (by omega), if_pos (by omega), hrd, if_pos hL2]) hn
       ·rw [if_neg hL2] at hn
        exact Ev.step (fun k => by simp only [tensilelaw08_RoundApart.l2]; rw [if_pos (by omega), if_pos (by omega), hrd, if_neg hL2, if_pos (by rw [maskS_length]; omega), Int.toNat_natCast]) hn
     have h0 := smp samples.length 0 (by omega) (by omega)
     have e0 : maskS (L : Int) (samples.take 0) (rd_T62 labs (j : Int)).f1 = (rd_T62 labs (j : Int)).f1 := by
      rw [List.take_zero]
      cases (rd_T62 labs (j : Int)).f1 <;> rfl
     rw [e0] at h0
     exact h0
   exact lab1 labs.length 0 (by omega) (by omega)
  have all : ∀ (d L : Nat) (e : Bool), lots.length - L = d → L ≤ lots.length → (e = true ↔ ∀ K, K < L → ∃ v, inR v ((lots.map m46).getD K z46) ∧ fitsP (labs.map m75) samples spread (offOf off) (-1) 0 K v) →
    Ev (fun k => tensilelaw08_RoundApart.l0 k off (canF (lots.map m46) samples spread (labs.map m75) (offOf off)) 0 e (L : Int) lots samples spread labs) true := by
   intro d
   induction d with
   | zero =>
    intro L e hd hL he
    have hce : canF (lots.map m46) samples spread (labs.map m75) (offOf off) = e := by
     refine bool_ext ?_
     rw [he]
     unfold canF
     rw [can_iff hok]
     have e1 : (lots.map m46).length = lots.length := List.length_map _
     rw [e1]
     exact ⟨fun h K hK => h K (by omega), fun h K hK => h K (by omega)⟩
    refine Ev.step (fun k => by simp only [tensilelaw08_RoundApart.l0]; rw [if_neg (by omega), if_pos trivial, hce, if_pos (by simp), wakes_eq, Option.bind_some]) (Ev.now _)
   | succ d ih =>
    intro L e hd hL he
    refine one L e (by omega) (ih (L + 1) _ (by omega) (by omega) ?_)
    rw [Bool.and_eq_true, he, mask_can hok (offOf off) L (by omega)]
    constructor
    ·rintro ⟨h1, h2⟩ K hK
     by_cases e : K = L
     ·subst e; exact h2
     ·exact h1 K (by omega)
    ·intro h
     exact ⟨fun K hK => h K (by omega), h L (by omega)⟩
  exact all lots.length 0 true (by omega) (by omega) (by simp)
theorem RoundApart_walk (A0 : Option Addr) (c0 : Nat) (lots : List S44) (A1 : Option Addr) (c1 : Nat) (samples : List Int) (spread : Int) (A3 : Option Addr) (c3 : Nat) (labs : List S62) (bits : Int) (W : World) {v : Value} (hi : In26 W v A0 c0 lots A1 c1 samples spread A3 c3 labs) (hw : (Lit.int .u8 bits).wf = true) :
  Calls Try.prog 10 #[.agg #[.slice A0 lots.length c0, .slice A1 samples.length c1, .int .i64 spread, .slice A3 labs.length c3], .int .u8 bits] W fun e W' => e = .returned (.bool true) ∧ Below W.heap.size W W' := by
 obtain ⟨k, h⟩ := RoundApart_pure lots samples spread labs bits ⟨hi.a, hi.b, hi.c, hi.d⟩
 exact tensilelaw08_RoundApart.calls k A0 c0 lots A1 c1 samples spread A3 c3 labs bits true W hi.r0 hi.h0 hi.r1 hi.h1 hi.r3 hi.h3 h
end Go.Proofs.Ytcpbhklaffgokaa.Q
