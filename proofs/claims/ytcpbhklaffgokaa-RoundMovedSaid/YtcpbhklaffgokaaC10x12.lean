import Derived.IntWalk
import Derived.Test.YtcpbhklaffgokaaC10x11
namespace Go.Proofs.Ytcpbhklaffgokaa.Q
open Go.RowKit Go.Proofs.YtcpbhklaffgokaaW.PrintWords Go.Proofs.YtcpbhklaffgokaaW.PrintLast Go.Proofs.YtcpbhklaffgokaaW.PrintMore
set_option linter.unusedVariables false
set_option linter.unusedSimpArgs false
attribute [local go_sem] max2_int min2_int max_two min_two max_three min_three max_four min_four
theorem eqA46 (d : Nat) (w : World) (x0 y0 : Int) (x1 y1 : Int) :
  (Op.equalIn (d + 2) 46 (.agg #[.int .i64 x0, .int .i64 x1]) (.agg #[.int .i64 y0, .int .i64 y1])).run Try.prog w = .ok (x0 == y0 && (x1 == y1)) w := by
 refine eqA_of Try.underlying46 (by kernel_rfl) ?_
 refine eqf_cons (by rfl) (by go_simp; rfl) (by go_simp; rfl) (by go_simp) ?_
 exact eqf_last (by rfl) (by go_simp; rfl) (by go_simp; rfl) (by go_simp)
attribute [local go_sem high] eqA46
theorem inL_mk2 {W : World} {A : Option Addr} {c : Nat} {l : List Int} (hc : l.length ≤ c) (hC : (Kd.int .i64).C W A l.length l) : InL W (.slice A l.length c) l := ⟨A, c, rfl, hc, hC⟩
mutual
def tensilelaw08_RoundMoved.l0 : Nat → Int → Int → Int → Int → List (S44) → List Int → Int → List (S62) → List (S44) → List Int → Int → Option (List S44 × List S62)
 | 0, _, _, _, _, _, _, _, _, _, _, _ => none
 | k + 1, x1, x2, x9, x11, x691000, x691001, x691002, x691003, x694000, x694001, x694002 => if x11 < (x691000.length : Int) then (if 0 ≤ x11 then (if x694000.length < 8796093022208 then (tensilelaw08_RoundMoved.l0 k x1 x2 x9 (wrap64 (x11 + 1)) x691000 x691001 x691002 x691003 (x694000 ++ [(⟨wrap64 (((rd_T44 x691000 x11).f0) + x9), wrap64 (((rd_T44 x691000 x11).f1) + x9)⟩ : S44)]) x694001 x694002) else (none)) else (none)) else (tensilelaw08_RoundMoved.l1 k x1 x2 x9 0 x691000 x691001 x691002 x691003 x694000 x694001 x694002 ([] : List (S62)))
def tensilelaw08_RoundMoved.l1 : Nat → Int → Int → Int → Int → List (S44) → List Int → Int → List (S62) → List (S44) → List Int → Int → List (S62) → Option (List S44 × List S62)
 | 0, _, _, _, _, _, _, _, _, _, _, _, _ => none
 | k + 1, x1, x2, x9, x12, x691000, x691001, x691002, x691003, x694000, x694001, x694002, x694003 => if x12 < (x691003.length : Int) then (if 0 ≤ x12 then (tensilelaw08_RoundMoved.l2 k x1 x2 x9 x12 0 x691000 x691001 x691002 x691003 x694000 x694001 x694002 x694003 ((rd_T62 x691003 x12).f0) ([] : List Int)) else (none)) else (some (x694000, x694003))
def tensilelaw08_RoundMoved.l2 : Nat → Int → Int → Int → Int → Int → List (S44) → List Int → Int → List (S62) → List (S44) → List Int → Int → List (S62) → Int → List Int → Option (List S44 × List S62)
 | 0, _, _, _, _, _, _, _, _, _, _, _, _, _, _, _ => none
 | k + 1, x1, x2, x9, x12, x14, x691000, x691001, x691002, x691003, x694000, x694001, x694002, x694003, x701000, x701001 => if 0 ≤ x12 then (if x12 < (x691003.length : Int) then (if x14 < (((rd_T62 x691003 x12).f1).length : Int) then (if 0 ≤ x14 then (if (rd ((rd_T62 x691003 x12).f1) x14) ≥ 0 then (if x701001.length < 17592186044416 then (tensilelaw08_RoundMoved.l2 k x1 x2 x9 x12 (wrap64 (x14 + 1)) x691000 x691001 x691002 x691003 x694000 x694001 x694002 x694003 x701000 (x701001 ++ [wrap64 ((rd ((rd_T62 x691003 x12).f1) x14) + x9)])) else (none)) else (if x701001.length < 17592186044416 then (tensilelaw08_RoundMoved.l2 k x1 x2 x9 x12 (wrap64 (x14 + 1)) x691000 x691001 x691002 x691003 x694000 x694001 x694002 x694003 x701000 (x701001 ++ [rd ((rd_T62 x691003 x12).f1) x14])) else (none))) else (none)) else (if x694003.length < 4398046511104 then (tensilelaw08_RoundMoved.l1 k x1 x2 x9 (wrap64 (x12 + 1)) x691000 x691001 x691002 x691003 x694000 x694001 x694002 (x694003 ++ [(⟨x701000, x701001⟩ : S62)])) else (none))) else (none)) else (none)
end
def mv.T33 : Bool × List (List Nat × List Nat) := (true, [([], []), ([], []), ([0, 1], [0, 1]), ([2], [2]), ([3], [3]), ([], []), ([], []), ([5, 6], [5, 6]), ([7], [7]), ([8], [8]), ([], []), ([9, 10], [9, 10]), ([4, 11], [4, 11]), ([12], [12]), ([13], [13]), ([13], [13]), ([14, 15, 13], [13, 14, 15]), ([16, 13], [13, 16]), ([17, 13], [13, 17]), ([13], [13]), ([13], [13]), ([19, 20, 13], [13, 19, 20]), ([21, 13], [13, 21]), ([22, 13], [13, 22]), ([13], [13]), ([23, 24, 13], [13, 23, 24]), ([18, 25, 13], [13, 18, 25]), ([13, 26], [13, 26])])
def mv.B33 : List Nat := [0, 0, 3, 7, 15, 0, 0, 96, 224, 480, 0, 2016, 4095, 8191, 16383, 16383, 65535, 131071, 262143, 16383, 16383, 1589247, 3686399, 7880703, 16383, 33046527, 67108863, 134217727]
theorem mv.tab33 : rtab .any (opsOf Try.f12 33) = mv.T33 := by kernel_rfl
theorem mv.bits33 : waitsOk mv.T33.2 mv.B33 = true := by kernel_rfl
def tensilelaw08_RoundMoved.T8 : Bool × List (List Nat × List Nat) := (true, [([], []), ([0], [0]), ([], []), ([2], [2]), ([], []), ([3, 4], [3, 4]), ([5], [5]), ([6], [6]), ([], []), ([7, 8], [7, 8]), ([], []), ([10], [10]), ([], []), ([11, 12], [11, 12]), ([13], [13]), ([14], [14]), ([], []), ([15, 16], [15, 16]), ([9, 17], [9, 17]), ([18], [18]), ([1, 19], [1, 19]), ([0, 1, 2, 3, 4, 5, 6, 7, 8, 9, 10, 11, 12, 13, 14, 15, 16, 17, 18, 19, 20], []), ([21, 20, 20, 0, 1, 2, 3, 4, 5, 6, 7, 8, 9, 10, 11, 12, 13, 14, 15, 16, 17, 18, 19, 20], [20, 21])])
def tensilelaw08_RoundMoved.B8 : List Nat := [0, 1, 0, 4, 0, 28, 60, 124, 0, 508, 0, 1024, 0, 7168, 15360, 31744, 0, 130048, 262140, 524284, 1048575, 2097151, 4194303]
theorem tensilelaw08_RoundMoved.tab8 : rtab .any (opsOf Try.f12 8) = tensilelaw08_RoundMoved.T8 := by kernel_rfl
theorem tensilelaw08_RoundMoved.bits8 : waitsOk tensilelaw08_RoundMoved.T8.2 tensilelaw08_RoundMoved.B8 = true := by kernel_rfl
def tensilelaw08_RoundMoved.T37 : Bool × List (List Nat × List Nat) := (true, [([], []), ([0], [0]), ([], []), ([2], [2]), ([], []), ([4], [4]), ([5], [5]), ([3, 6], [3, 6]), ([1, 7, 1], [1, 7]), ([8], [8]), ([9], [9]), ([9], [9]), ([], []), ([12, 10, 8, 0, 1, 2, 3, 4, 5, 6, 7, 8, 9, 10, 12], [10, 12]), ([11, 13, 0, 1, 2, 3, 4, 5, 6, 7, 8, 9, 10, 11, 12, 13], [11])])
def tensilelaw08_RoundMoved.B37 : List Nat := [0, 1, 0, 4, 0, 16, 48, 124, 255, 511, 1023, 1023, 0, 6143, 16383]
theorem tensilelaw08_RoundMoved.tab37 : rtab .any (opsOf Try.f12 37) = tensilelaw08_RoundMoved.T37 := by kernel_rfl
theorem tensilelaw08_RoundMoved.bits37 : waitsOk tensilelaw08_RoundMoved.T37.2 tensilelaw08_RoundMoved.B37 = true := by kernel_rfl
def tensilelaw08_RoundMoved.T38 : Bool × List (List Nat × List Nat) := (true, [([], []), ([0], [0]), ([], []), ([2], [2]), ([], []), ([4], [4]), ([5], [5]), ([3, 6], [3, 6]), ([1, 7, 1], [1, 7]), ([8], [8]), ([9], [9]), ([9], [9]), ([], []), ([12, 10, 8, 0, 1, 2, 3, 4, 5, 6, 7, 8, 9, 10, 12], [10, 12]), ([11, 13, 0, 1, 2, 3, 4, 5, 6, 7, 8, 9, 10, 11, 12, 13], [11])])
def tensilelaw08_RoundMoved.B38 : List Nat := [0, 1, 0, 4, 0, 16, 48, 124, 255, 511, 1023, 1023, 0, 6143, 16383]
theorem tensilelaw08_RoundMoved.tab38 : rtab .any (opsOf Try.f12 38) = tensilelaw08_RoundMoved.T38 := by kernel_rfl
theorem tensilelaw08_RoundMoved.bits38 : waitsOk tensilelaw08_RoundMoved.T38.2 tensilelaw08_RoundMoved.B38 = true := by kernel_rfl
set_option maxHeartbeats 4000000 in
set_option maxRecDepth 100000 in
theorem moved_no {W : World} {v : Value} {A0 : Option Addr} {c0 : Nat} {lots : List S44} {A1 : Option Addr} {c1 : Nat} {samples : List Int} {spread : Int} {A3 : Option Addr} {c3 : Nat} {labs : List S62} (h : In26 W v A0 c0 lots A1 c1 samples spread A3 c3 labs) (a1 a2 a3 : Int) (hr : Ev (fun k => tensilelaw08_ready.f k lots samples spread labs) false) :
  Calls Try.prog 12 #[.agg #[.slice A0 lots.length c0, .slice A1 samples.length c1, .int .i64 spread, .slice A3 labs.length c3], .int .u8 a1, .int .u8 a2, .int .u16 a3] W (RetB W (.bool true)) := by
 have HI := Aside0.mk h
 have HB := Aside0.mk (below_alloc (Below.refl _ W) (.cells #[.slice A0 lots.length c0, .slice A1 samples.length c1, .int .i64 spread, .slice A3 labs.length c3] 26))
 have B3 := Aside0.mk (blk_new W (.cells #[.slice A0 lots.length c0, .slice A1 samples.length c1, .int .i64 spread, .slice A3 labs.length c3] 26))
 obtain ⟨p0, p1, p2, p3⟩ := cells4 B3.out
 have lt_B3 := blk_lt B3.out
 have HRd := Aside0.mk hr
 clear h hr
 go_enter Try.func12, Try.ntmps12
 go_wp2_with (first | (go_at_call 35; (with_reducible refine (ready_at (HI.out.below (by repeat (first | (with_reducible exact HB.out) | apply below_alloc | apply pw_below_drewN | apply below_drew1 | refine below_set ?_ (by omega)))) HRd.out).mono ?_); rintro e w1 ⟨rfl, hb⟩; replace HB := Aside0.mk (below_step (by repeat (first | (with_reducible exact HB.out) | apply below_alloc | apply pw_below_drewN | apply below_drew1 | refine below_set ?_ (by omega))) hb); replace B3 := Aside0.mk (blk_below (g := W.heap.size) (o := .cells #[.slice A0 lots.length c0, .slice A1 samples.length c1, .int .i64 spread, .slice A3 labs.length c3] 26 (0, 0)) (by (with_reducible repeat (first | exact B3.out | refine blk_drewN ?_ _ | refine blk_drew ?_ | refine blk_alloc ?_ _))) hb); clear hb; (try clear p0 p1 p2 p3); (try clear lt_B3); have lt_B3 := blk_lt B3.out; obtain ⟨p0, p1, p2, p3⟩ := cells4 B3.out) | (go_at_call 18; (with_reducible refine (wakes_any _).mono ?_); rintro e w9 ⟨rfl, hb⟩; replace HB := Aside0.mk (below_step (by repeat (first | (with_reducible exact HB.out) | apply below_alloc | apply pw_below_drewN | apply below_drew1 | refine below_set ?_ (by omega))) hb); replace B3 := Aside0.mk (blk_below (g := W.heap.size) (o := .cells #[.slice A0 lots.length c0, .slice A1 samples.length c1, .int .i64 spread, .slice A3 labs.length c3] 26 (0, 0)) (by (with_reducible repeat (first | exact B3.out | refine blk_drewN ?_ _ | refine blk_drew ?_ | refine blk_alloc ?_ _))) hb); clear hb; (try clear p0 p1 p2 p3); (try clear lt_B3); have lt_B3 := blk_lt B3.out; obtain ⟨p0, p1, p2, p3⟩ := cells4 B3.out))
 go_ret
 exact ⟨rfl, HB.out⟩
set_option maxHeartbeats 16000000 in
set_option maxRecDepth 100000 in
theorem moved_walk (A0_0 : Option Addr) (c0_0 : Nat) (l0_0 : List (S44)) (A0_1 : Option Addr) (c0_1 : Nat) (l0_1 : List Int) (a0_2 : Int) (A0_3 : Option Addr) (c0_3 : Nat) (l0_3 : List (S62)) (a1 : Int) (a2 : Int) (a3 : Int) (w : World) {v0 : Value} (hi : In26 w v0 A0_0 c0_0 l0_0 A0_1 c0_1 l0_1 a0_2 A0_3 c0_3 l0_3) (kr : Nat) (hrd : tensilelaw08_ready.f kr l0_0 l0_1 a0_2 l0_3 = some true) (hth : ThinR l0_0 l0_1 l0_3) (h6 : l0_3.length ≤ 6) (hl0 : 0 ≤ a2) (hl1 : a2 < 256)
  (lr : List S44) (br : List S62) (k : Nat) (h : tensilelaw08_RoundMoved.l0 k a1 a2 (Int.tmod (wrap64 (a3)) 500) 0 l0_0 l0_1 a0_2 l0_3 ([] : List (S44)) l0_1 a0_2 = some (lr, br)) (hthx : ThinR lr l0_1 br) (n : Int) (hn : Int.tmod (wrap64 (a3)) 500 = n)
  (HM : checkRound (lr.map m46) l0_1 a0_2 (br.map m75) = 0 → ∃ (off : List Int) (a : Bool) (sp tp : List S46) (g : Int), chosenF l0_3.length a1 = off ∧ off.length ≤ 6 ∧ explainsF (l0_0.map m46) l0_1 a0_2 (l0_3.map m75) off = (a, 0) ∧ explainsF (lr.map m46) l0_1 a0_2 (br.map m75) off = (a, 0) ∧ spansR (l0_0.map m46) l0_1 a0_2 (l0_3.map m75) off = (sp, g) ∧ spansR (lr.map m46) l0_1 a0_2 (br.map m75) off = (tp, g) ∧ sp.length ≤ tp.length ∧ tp.length ≤ sp.length ∧ sp.length ≤ 8 ∧
   (∀ i : Int, 0 ≤ i → i < sp.length → (rd_T46 tp i).f0 = (rd_T46 sp i).f0 + n ∧ (rd_T46 tp i).f1 = (rd_T46 sp i).f1 + n ∧ IntKind.i64.wrap ((rd_T46 sp i).f0 + n) = (rd_T46 sp i).f0 + n ∧ IntKind.i64.wrap ((rd_T46 sp i).f1 + n) = (rd_T46 sp i).f1 + n) ∧
   (0 < l0_3.length → ∃ t0 t1 eh, shiftsF (l0_0.map m46) l0_1 a0_2 (l0_3.map m75) (Int.tmod a2 (l0_3.length : Int)) = (⟨t0, t1⟩, eh) ∧ shiftsF (lr.map m46) l0_1 a0_2 (br.map m75) (Int.tmod a2 (l0_3.length : Int)) = (⟨t0, t1⟩, eh))) :
  Calls Try.prog 12 #[.agg #[.slice A0_0 l0_0.length c0_0, .slice A0_1 l0_1.length c0_1, .int .i64 a0_2, .slice A0_3 l0_3.length c0_3], .int .u8 a1, .int .u8 a2, .int .u16 a3] w (RetB w (.bool true)) := by
 have hu26 := Try.underlying26
 have hu44 := Try.underlying44
 have hu62 := Try.underlying62
 have hu46 := Try.underlying46
 have HI := Aside0.mk hi
 have HR0_0 := Aside0.mk hi.r0
 have HC0_0 := Aside0.mk hi.h0
 have HR0_1 := Aside0.mk hi.r1
 have HC0_1 := Aside0.mk hi.h1
 have HR0_3 := Aside0.mk hi.r3
 have HC0_3 := Aside0.mk hi.h3
 have HB := Aside0.mk (Below.refl w.heap.size w)
 have A5 := Aside0.mk hrd
 have H' := Aside0.mk h
 have HTh := Aside0.mk hth
 have HThX := Aside0.mk hthx
 have HN := Aside0.mk hn
 have HMM := Aside0.mk HM
 have H6 := Aside0.mk h6
 clear hi hrd h hth hthx hn HM h6
 go_enter Try.func12, Try.ntmps12
 go_wp2_with (first | ((with_reducible refine gate_dst (N := 4) rfl ?_); (try (refine gate_guard (by rfl) ?_; dsimp only)); refine box_event ?hg (N := 4) ?hd (cs := #[.slice A0_0 l0_0.length c0_0, .slice A0_1 l0_1.length c0_1, .int .i64 a0_2, .slice A0_3 l0_3.length c0_3]) (t := 26) ?hr ?_; (case hd => rfl); (case hg => rfl); (case hr => first | (go_simp; done) | (go_simp; rfl)); intro gb690 hg w7 hbox hb; have n0_ := Aside0.mk (below_step (by repeat (first | (with_reducible first | exact HB.out | apply below_alloc | apply pw_below_drewN | apply below_drew1) | exact HB.out)) hb); have n1_ := Aside0.mk (hbox); have n2_ := Aside0.mk ((by rw [hg]; exact (below_size (by repeat (first | (with_reducible first | exact HB.out | apply below_alloc | apply pw_below_drewN | apply below_drew1) | exact HB.out))) : w.heap.size ≤ gb690)); have n3_ := Aside0.mk ((by rw [hg]; exact (below_size (by repeat (first | (with_reducible first | exact HB.out | apply below_alloc | apply pw_below_drewN | apply below_drew1) | exact HB.out))) : w.heap.size ≤ gb690)); clear HB; have HB := n0_; have BK690 := n1_; have GW690 := n2_; have GE690 := n3_; clear n0_ n1_ n2_ n3_; clear hb hbox hg; have hcz8_0 : w7.cell? ⟨gb690, 0, none⟩ = some (.slice A0_0 l0_0.length c0_0) := (blk_cell BK690.out 0).trans rfl; have hcz8_1 : w7.cell? ⟨gb690, 1, none⟩ = some (.slice A0_1 l0_1.length c0_1) := (blk_cell BK690.out 1).trans rfl; have hcz8_2 : w7.cell? ⟨gb690, 2, none⟩ = some (.int .i64 a0_2) := (blk_cell BK690.out 2).trans rfl; have hcz8_3 : w7.cell? ⟨gb690, 3, none⟩ = some (.slice A0_3 l0_3.length c0_3) := (blk_cell BK690.out 3).trans rfl; have hfz8_0 := blk_frozen BK690.out 0; have hfz8_1 := blk_frozen BK690.out 1; have hfz8_2 := blk_frozen BK690.out 2; have hfz8_3 := blk_frozen BK690.out 3) | ((with_reducible refine gate_callee (f := 35) rfl ?_); refine goesL_ (some 31) rfl rfl Try.func35 (by kernel_rfl) rfl #[.agg #[.slice A0_0 l0_0.length c0_0, .slice A0_1 l0_1.length c0_1, .int .i64 a0_2, .slice A0_3 l0_3.length c0_3]] rfl (by (try simp only [List.map_toArray, List.map_cons, List.map_nil]); first | done | rfl | (simp only [List.length_drop, List.length_take]; rfl)) ?_; (with_reducible refine (tensilelaw08_ready.calls kr _ _ l0_0 _ _ l0_1 a0_2 _ _ l0_3 true _ ?side1 ?side2 ?side3 ?side4 ?side5 ?side6 A5.out).mono ?_); (case side1 => repeat (first | exact (Kd.C_below HR0_0.out HB.out) | (with_reducible refine Kd.C_alloc ?_ _) | (with_reducible refine Kd.C_drewN ?_ _) | (with_reducible refine Kd.C_drew ?_))); (case side2 => exact HC0_0.out); (case side3 => repeat (first | exact (Kd.C_below HR0_1.out HB.out) | (with_reducible refine Kd.C_alloc ?_ _) | (with_reducible refine Kd.C_drewN ?_ _) | (with_reducible refine Kd.C_drew ?_))); (case side4 => exact HC0_1.out); (case side5 => repeat (first | exact (Kd.C_below HR0_3.out HB.out) | (with_reducible refine Kd.C_alloc ?_ _) | (with_reducible refine Kd.C_drewN ?_ _) | (with_reducible refine Kd.C_drew ?_))); (case side6 => exact HC0_3.out); rintro e w9 ⟨rfl, hb⟩; refine ⟨_, rfl, ?_⟩; have n0_ := Aside0.mk (blk_below (g := gb690) (o := .cells #[.slice A0_0 l0_0.length c0_0, .slice A0_1 l0_1.length c0_1, .int .i64 a0_2, .slice A0_3 l0_3.length c0_3] 26 (0, 0)) (by (with_reducible repeat (first | refine blk_drewN ?_ _ | refine blk_drew ?_ | refine blk_alloc ?_ _)); exact BK690.out) hb); have n1_ := Aside0.mk (below_step (by repeat (first | (with_reducible first | exact HB.out | apply below_alloc | apply pw_below_drewN | apply below_drew1 | refine below_set ?_ GE690.out) | exact HB.out)) hb); clear BK690; clear HB; have BK690 := n0_; have HB := n1_; clear n0_ n1_; (try clear hb); (try clear hb2); (try clear hk); (try clear hi); have hcz10_0 : w9.cell? ⟨gb690, 0, none⟩ = some (.slice A0_0 l0_0.length c0_0) := (blk_cell BK690.out 0).trans rfl; have hcz10_1 : w9.cell? ⟨gb690, 1, none⟩ = some (.slice A0_1 l0_1.length c0_1) := (blk_cell BK690.out 1).trans rfl; have hcz10_2 : w9.cell? ⟨gb690, 2, none⟩ = some (.int .i64 a0_2) := (blk_cell BK690.out 2).trans rfl; have hcz10_3 : w9.cell? ⟨gb690, 3, none⟩ = some (.slice A0_3 l0_3.length c0_3) := (blk_cell BK690.out 3).trans rfl; have hfz10_0 := blk_frozen BK690.out 0; have hfz10_1 := blk_frozen BK690.out 1; have hfz10_2 := blk_frozen BK690.out 2; have hfz10_3 := blk_frozen BK690.out 3) | ((with_reducible refine gate_dst (N := 10) rfl ?_); (try (refine gate_guard (by rfl) ?_; dsimp only)); refine box_event ?hg (N := 10) ?hd (cs := #[.slice none 0 0, .slice none 0 0, .int .i64 0, .slice none 0 0]) (t := 26) ?hr ?_; (case hd => rfl); (case hg => rfl); (case hr => first | (go_simp; done) | (go_simp; rfl)); intro gb693 hg w11 hbox hb; have n0_ := Aside0.mk (blk_below (g := gb690) (o := .cells #[.slice A0_0 l0_0.length c0_0, .slice A0_1 l0_1.length c0_1, .int .i64 a0_2, .slice A0_3 l0_3.length c0_3] 26 (0, 0)) (by (with_reducible repeat (first | refine blk_drewN ?_ _ | refine blk_drew ?_ | refine blk_alloc ?_ _)); exact BK690.out) hb); have n1_ := Aside0.mk (below_step (by repeat (first | (with_reducible first | exact HB.out | apply below_alloc | apply pw_below_drewN | apply below_drew1 | refine below_set ?_ GE690.out) | exact HB.out)) hb); have n2_ := Aside0.mk (hbox); have n3_ := Aside0.mk ((by rw [hg]; exact (below_size (by repeat (first | (with_reducible first | exact HB.out | apply below_alloc | apply pw_below_drewN | apply below_drew1 | refine below_set ?_ GE690.out) | exact HB.out))) : w.heap.size ≤ gb693)); have n4_ := Aside0.mk ((by rw [hg]; exact (below_size (by repeat (first | (with_reducible first | exact HB.out | apply below_alloc | apply pw_below_drewN | apply below_drew1 | refine below_set ?_ GE690.out) | exact HB.out))) : w.heap.size ≤ gb693)); have n5_ := Aside0.mk ((by rw [hg]; exact Nat.ne_of_lt (blk_lt (g := gb690) (o := .cells #[.slice A0_0 l0_0.length c0_0, .slice A0_1 l0_1.length c0_1, .int .i64 a0_2, .slice A0_3 l0_3.length c0_3] 26 (0, 0)) (by (with_reducible repeat (first | refine blk_drewN ?_ _ | refine blk_drew ?_ | refine blk_alloc ?_ _)); exact BK690.out)) : gb690 ≠ gb693)); have n6_ := Aside0.mk ((by rw [hg]; exact Nat.ne_of_gt (blk_lt (g := gb690) (o := .cells #[.slice A0_0 l0_0.length c0_0, .slice A0_1 l0_1.length c0_1, .int .i64 a0_2, .slice A0_3 l0_3.length c0_3] 26 (0, 0)) (by (with_reducible repeat (first | refine blk_drewN ?_ _ | refine blk_drew ?_ | refine blk_alloc ?_ _)); exact BK690.out)) : gb693 ≠ gb690)); clear BK690; clear HB; have BK690 := n0_; have HB := n1_; have BK693 := n2_; have GW693 := n3_; have GE693 := n4_; have NB690_693 := n5_; have NB693_690 := n6_; clear n0_ n1_ n2_ n3_ n4_ n5_ n6_; clear hb hbox hg; have hnb12 := NB693_690.out; have hnc12 := NB690_693.out; have hcz13_0 : w11.cell? ⟨gb693, 0, none⟩ = some (.slice none 0 0) := (blk_cell BK693.out 0).trans rfl; have hcz13_1 : w11.cell? ⟨gb693, 1, none⟩ = some (.slice none 0 0) := (blk_cell BK693.out 1).trans rfl; have hcz13_2 : w11.cell? ⟨gb693, 2, none⟩ = some (.int .i64 0) := (blk_cell BK693.out 2).trans rfl; have hcz13_3 : w11.cell? ⟨gb693, 3, none⟩ = some (.slice none 0 0) := (blk_cell BK693.out 3).trans rfl; have hfz13_0 := blk_frozen BK693.out 0; have hfz13_1 := blk_frozen BK693.out 1; have hfz13_2 := blk_frozen BK693.out 2; have hfz13_3 := blk_frozen BK693.out 3))
 go_loopg [11] k (fun kq v11 w' => ∃ (x11_1 : Int) (x694000_1 : List (S44)) (u694000 : Value), v11 = .int .i64 x11_1 ∧ Aside0 (tensilelaw08_RoundMoved.l0 kq a1 a2 (Int.tmod (wrap64 (a3)) 500) x11_1 l0_0 l0_1 a0_2 l0_3 x694000_1 l0_1 a0_2 = some (lr, br)) ∧ Aside0 (kq ≤ k) ∧ Aside0 (Kd.R k44 44 w' w.heap.size (fun _ => True) u694000 x694000_1) ∧ Aside0 (w'.heap[gb690]? = some (.cells #[(.slice A0_0 l0_0.length c0_0), (.slice A0_1 l0_1.length c0_1), .int .i64 a0_2, (.slice A0_3 l0_3.length c0_3)] 26 (0, 0))) ∧ Aside0 (w'.heap[gb693]? = some (.cells #[u694000, (.slice A0_1 l0_1.length c0_1), .int .i64 a0_2, (.slice none 0 0)] 26 (0, 0))) ∧ Aside0 (Below w.heap.size w w'))
 case atStart => exact ⟨(0), (([] : List (S44))), (.slice none 0 0), (by first | rfl | (simp; done) | (simp [*]; done)), H', ⟨Nat.le_refl _⟩, ⟨by first | exact Kd.R_nil _ _ _ _ _ | exact Kd.N_nil _ _ _ _ _ | exact Kd.V_nil _ _ _ _ _ | exact Kd.Q_nil _ _ _ _ _ | exact Kd.S_nil _ _ _ _ _⟩, ⟨by (with_reducible repeat (first | refine blk_drewN ?_ _ | refine blk_drew ?_ | refine blk_alloc ?_ _)); refine blk_far ?_ NB690_693.out _; (with_reducible repeat (first | refine blk_drewN ?_ _ | refine blk_drew ?_ | refine blk_alloc ?_ _)); refine blk_far ?_ NB690_693.out _; (with_reducible repeat (first | refine blk_drewN ?_ _ | refine blk_drew ?_ | refine blk_alloc ?_ _)); refine blk_far ?_ NB690_693.out _; (with_reducible repeat (first | refine blk_drewN ?_ _ | refine blk_drew ?_ | refine blk_alloc ?_ _)); refine blk_far ?_ NB690_693.out _; (with_reducible repeat (first | refine blk_drewN ?_ _ | refine blk_drew ?_ | refine blk_alloc ?_ _)); exact BK690.out⟩, ⟨by (with_reducible repeat (first | refine blk_drewN ?_ _ | refine blk_drew ?_ | refine blk_alloc ?_ _)); refine blk_put (cs := #[.slice none 0 0, .slice A0_1 l0_1.length c0_1, .int .i64 a0_2, .slice none 0 0]) ?_ 3 _ rfl; (with_reducible repeat (first | refine blk_drewN ?_ _ | refine blk_drew ?_ | refine blk_alloc ?_ _)); refine blk_put (cs := #[.slice none 0 0, .slice A0_1 l0_1.length c0_1, .int .i64 0, .slice none 0 0]) ?_ 2 _ rfl; (with_reducible repeat (first | refine blk_drewN ?_ _ | refine blk_drew ?_ | refine blk_alloc ?_ _)); refine blk_put (cs := #[.slice none 0 0, .slice none 0 0, .int .i64 0, .slice none 0 0]) ?_ 1 _ rfl; (with_reducible repeat (first | refine blk_drewN ?_ _ | refine blk_drew ?_ | refine blk_alloc ?_ _)); refine blk_put (cs := #[.slice none 0 0, .slice none 0 0, .int .i64 0, .slice none 0 0]) ?_ 0 _ rfl; (with_reducible repeat (first | refine blk_drewN ?_ _ | refine blk_drew ?_ | refine blk_alloc ?_ _)); exact BK693.out⟩, ⟨by repeat (first | (with_reducible first | exact HB.out | apply below_alloc | apply pw_below_drewN | apply below_drew1 | refine below_set ?_ GE690.out | refine below_set ?_ GE693.out) | exact HB.out)⟩⟩
 case round =>
  clear H'
  try clear c1
  try clear p2
  try clear c3
  try clear c6
  try clear p6
  try clear c12
  try clear hcz10_0
  try clear hcz10_1
  try clear hcz10_2
  try clear hcz10_3
  try clear hcz13_0
  try clear hcz13_1
  try clear hcz13_2
  try clear hcz13_3
  try clear hcz8_0
  try clear hcz8_1
  try clear hcz8_2
  try clear hcz8_3
  try clear hfz10_0
  try clear hfz10_1
  try clear hfz10_2
  try clear hfz10_3
  try clear hfz13_0
  try clear hfz13_1
  try clear hfz13_2
  try clear hfz13_3
  try clear hfz8_0
  try clear hfz8_1
  try clear hfz8_2
  try clear hfz8_3
  obtain ⟨x11_1, x694000_1, u694000, rfl, HA, HK1, HO_694000, BK690, BK693, HB⟩ := hrel
  cases gk with
  | zero => exact absurd HA.out (by simp [tensilelaw08_RoundMoved.l0])
  | succ k1 =>
   have H := HA.out
   clear HA
   simp only [tensilelaw08_RoundMoved.l0] at H
   by_cases c14 : x11_1 < (l0_0.length : Int)
   ·rw [if_pos c14] at H
    have c14b0 : decide (x11_1 < (l0_0.length : Int)) = true := decide_eq_true c14
    clear c14
    by_cases c15 : 0 ≤ x11_1
    ·rw [if_pos c15] at H
     have c15b0 : decide (0 ≤ x11_1) = true := decide_eq_true c15
     clear c15
     by_cases c16 : x694000_1.length < 8796093022208
     ·rw [if_pos c16] at H
      have LMc16 := Aside0.mk c16
      clear c16
      obtain ⟨y696, hy696⟩ : ∃ y_ : List (S44), y_ = (x694000_1 ++ [(⟨wrap64 (((rd_T44 l0_0 x11_1).f0) + (Int.tmod (wrap64 (a3)) 500)), wrap64 (((rd_T44 l0_0 x11_1).f1) + (Int.tmod (wrap64 (a3)) 500))⟩ : S44)]) := ⟨_, rfl⟩
      replace H : (tensilelaw08_RoundMoved.l0 k1 a1 a2 (Int.tmod (wrap64 (a3)) 500) (wrap64 (x11_1 + 1)) l0_0 l0_1 a0_2 l0_3 y696 l0_1 a0_2) = some (lr, br) := by first | (rw [hy696]; with_reducible exact H) | (have H2_ := (Option.bind_some _ _).symm.trans H; rw [hy696]; with_reducible exact H2_) | (have H2_ := (Option.bind_some _ _).symm.trans H; with_reducible exact H2_) | with_reducible exact H | (rw [hy696]; exact H) | exact H
      have Ny696 := Aside0.mk hy696
      clear hy696
      have H' := Aside0.mk H
      clear H
      have hnb17 := NB690_693.out
      have hnc17 := NB693_690.out
      have hcz18_0 : wr.cell? ⟨gb690, 0, none⟩ = some (.slice A0_0 l0_0.length c0_0) := (blk_cell BK690.out 0).trans rfl
      have hcz18_1 : wr.cell? ⟨gb690, 1, none⟩ = some (.slice A0_1 l0_1.length c0_1) := (blk_cell BK690.out 1).trans rfl
      have hcz18_2 : wr.cell? ⟨gb690, 2, none⟩ = some (.int .i64 a0_2) := (blk_cell BK690.out 2).trans rfl
      have hcz18_3 : wr.cell? ⟨gb690, 3, none⟩ = some (.slice A0_3 l0_3.length c0_3) := (blk_cell BK690.out 3).trans rfl
      have hfz18_0 := blk_frozen BK690.out 0
      have hfz18_1 := blk_frozen BK690.out 1
      have hfz18_2 := blk_frozen BK690.out 2
      have hfz18_3 := blk_frozen BK690.out 3
      try go_wp2
      have n0_ := Aside0.mk (Kd.R_drew HO_694000.out)
      have n1_ := Aside0.mk (blk_drew BK690.out)
      have n2_ := Aside0.mk (blk_drew BK693.out)
      have n3_ := Aside0.mk (below_drew1 HB.out)
      clear HO_694000
      clear BK690
      clear BK693
      clear HB
      have HO_694000 := n0_
      have BK690 := n1_
      have BK693 := n2_
      have HB := n3_
      clear n0_ n1_ n2_ n3_
      have p694 : 0 ≤ (x11_1 : Int) := of_decide_eq_true (by first | (with_reducible assumption) | assumption)
      have q694 : x11_1 < (l0_0.length : Int) := of_decide_eq_true (by first | (with_reducible assumption) | assumption)
      obtain ⟨ad694, e694, hx694_0, hx694_1⟩ := at_T44 HR0_0.out x11_1 p694 q694
      have hw694_1 := hx694_1
      have hw694_0 := hx694_0
      cases e694
      replace hx694_0 := (HB.out.cell (World.block_lt_of_cell? w _ hx694_0)).trans hx694_0
      replace hx694_1 := (HB.out.cell (World.block_lt_of_cell? w _ hx694_1)).trans hx694_1
      replace p694 := eq_true p694
      replace q694 := eq_true q694
      have p695 : 0 ≤ (x11_1 : Int) := of_decide_eq_true (by first | (with_reducible assumption) | assumption)
      have q695 : x11_1 < (l0_0.length : Int) := of_decide_eq_true (by first | (with_reducible assumption) | assumption)
      obtain ⟨ad695, e695, hx695_0, hx695_1⟩ := at_T44 HR0_0.out x11_1 p695 q695
      have hw695_1 := hx695_1
      have hw695_0 := hx695_0
      obtain rfl : ad694 = ad695 := (by injection e695)
      replace hx695_0 := (HB.out.cell (World.block_lt_of_cell? w _ hx695_0)).trans hx695_0
      replace hx695_1 := (HB.out.cell (World.block_lt_of_cell? w _ hx695_1)).trans hx695_1
      replace p695 := eq_true p695
      replace q695 := eq_true q695
      refine start_ (n := 23) (S := fun w' => w'.cell? ⟨gb693, 0, none⟩ = some (u694000) ∧ w'.cell? ⟨gb693, 1, none⟩ = some (.slice A0_1 l0_1.length c0_1) ∧ w'.cell? ⟨gb693, 2, none⟩ = some (.int .i64 a0_2) ∧ w'.cell? ⟨gb693, 3, none⟩ = some (.slice none 0 0) ∧ w'.cell? ⟨gb690, 0, none⟩ = some (.slice (some ad694) l0_0.length c0_0) ∧ w'.cell? ⟨gb690, 1, none⟩ = some (.slice A0_1 l0_1.length c0_1) ∧ w'.cell? ⟨gb690, 2, none⟩ = some (.int .i64 a0_2) ∧ w'.cell? ⟨gb690, 3, none⟩ = some (.slice A0_3 l0_3.length c0_3) ∧ w'.cell? (ad694.add ((x11_1).toNat * 2)) = some (.int .i64 ((rd_T44 l0_0 x11_1).f0)) ∧ w'.cell? ⟨(ad694.add ((x11_1).toNat * 2)).block, (ad694.add ((x11_1).toNat * 2)).off + 1, none⟩ = some (.int .i64 ((rd_T44 l0_0 x11_1).f1)) ∧ w'.cell? (ad694.add ((x11_1).toNat * 2)) = some (.int .i64 ((rd_T44 l0_0 x11_1).f0)) ∧ w'.cell? ⟨(ad694.add ((x11_1).toNat * 2)).block, (ad694.add ((x11_1).toNat * 2)).off + 1, none⟩ = some (.int .i64 ((rd_T44 l0_0 x11_1).f1))) (ds := [22]) #[false, false, false, false, false, false, false, false, false, false, false, false, false, false, false, false, false, false, false, false, false, false, false] (by kernel_rfl) rfl rfl ⟨(blk_cell BK693.out 0).trans rfl, (blk_cell BK693.out 1).trans rfl, (blk_cell BK693.out 2).trans rfl, (blk_cell BK693.out 3).trans rfl, (blk_cell BK690.out 0).trans rfl, (blk_cell BK690.out 1).trans rfl, (blk_cell BK690.out 2).trans rfl, (blk_cell BK690.out 3).trans rfl, ((HB.out.cell (World.block_lt_of_cell? w _ hw694_0)).trans hw694_0), ((HB.out.cell (World.block_lt_of_cell? w _ hw694_1)).trans hw694_1), ((HB.out.cell (World.block_lt_of_cell? w _ hw695_0)).trans hw695_0), ((HB.out.cell (World.block_lt_of_cell? w _ hw695_1)).trans hw695_1)⟩ (fun hHeld => ?_); refine with_tabW tensilelaw08_RoundMoved.tab8 tensilelaw08_RoundMoved.bits8 (fun HT_ HW_ => ?_)
      generalize wr.drew = w19 at HO_694000 BK690 BK693 HB hx694_0 hx694_1 hx695_0 hx695_1 hHeld ⊢
      refine pure_ (i := 0) (N := some 49) (v := ?_) (a' := ?_) #[true, false, false, false, false, false, false, false, false, false, false, false, false, false, false, false, false, false, false, false, false, false, false] rfl rfl (any_of HT_.out (by kernel_rfl)) (fun _ _ _ h => h) (Or.inl ⟨by rfl, ?_⟩) ?_ ?_
      rotate_left
      ·intro w'
       go_simp
       with_reducible rfl
      rotate_left
      ·simp only [Act.put, List.setIfInBounds_toArray, List.set_cons_zero, List.set_cons_succ, i64_w, i32_w]
       rfl
      refine pure_ (i := 2) (N := some 51) (v := ?_) (a' := ?_) #[true, false, true, false, false, false, false, false, false, false, false, false, false, false, false, false, false, false, false, false, false, false, false] rfl rfl (any_of HT_.out (by kernel_rfl)) (fun _ _ _ h => h) (Or.inl ⟨by rfl, ?_⟩) ?_ ?_
      rotate_left
      ·intro w'
       go_simp
       with_reducible rfl
      rotate_left
      ·simp only [Act.put, List.setIfInBounds_toArray, List.set_cons_zero, List.set_cons_succ, i64_w, i32_w]
       rfl
      refine pure_ (i := 4) (N := some 53) (v := ?_) (a' := ?_) #[true, false, true, false, true, false, false, false, false, false, false, false, false, false, false, false, false, false, false, false, false, false, false] rfl rfl (any_of HT_.out (by kernel_rfl)) (fun _ _ _ h => h) (Or.inl ⟨by rfl, ?_⟩) ?_ ?_
      rotate_left
      ·intro w'
       go_simp
       with_reducible rfl
      rotate_left
      ·simp only [Act.put, List.setIfInBounds_toArray, List.set_cons_zero, List.set_cons_succ, i64_w, i32_w]
       rfl
      refine pure_ (i := 8) (N := some 57) (v := ?_) (a' := ?_) #[true, false, true, false, true, false, false, false, true, false, false, false, false, false, false, false, false, false, false, false, false, false, false] rfl rfl (any_of HT_.out (by kernel_rfl)) (fun _ _ _ h => h) (Or.inl ⟨by rfl, ?_⟩) ?_ ?_
      rotate_left
      ·intro w'
       go_simp
       with_reducible rfl
      rotate_left
      ·simp only [Act.put, List.setIfInBounds_toArray, List.set_cons_zero, List.set_cons_succ, i64_w, i32_w]
       rfl
      refine pure_ (i := 10) (N := some 59) (v := ?_) (a' := ?_) #[true, false, true, false, true, false, false, false, true, false, true, false, false, false, false, false, false, false, false, false, false, false, false] rfl rfl (any_of HT_.out (by kernel_rfl)) (fun _ _ _ h => h) (Or.inl ⟨by rfl, ?_⟩) ?_ ?_
      rotate_left
      ·intro w'
       go_simp
       with_reducible rfl
      rotate_left
      ·simp only [Act.put, List.setIfInBounds_toArray, List.set_cons_zero, List.set_cons_succ, i64_w, i32_w]
       rfl
      refine pure_ (i := 12) (N := some 61) (v := ?_) (a' := ?_) #[true, false, true, false, true, false, false, false, true, false, true, false, true, false, false, false, false, false, false, false, false, false, false] rfl rfl (any_of HT_.out (by kernel_rfl)) (fun _ _ _ h => h) (Or.inl ⟨by rfl, ?_⟩) ?_ ?_
      rotate_left
      ·intro w'
       go_simp
       with_reducible rfl
      rotate_left
      ·simp only [Act.put, List.setIfInBounds_toArray, List.set_cons_zero, List.set_cons_succ, i64_w, i32_w]
       rfl
      refine pure_ (i := 16) (N := some 65) (v := ?_) (a' := ?_) #[true, false, true, false, true, false, false, false, true, false, true, false, true, false, false, false, true, false, false, false, false, false, false] rfl rfl (any_of HT_.out (by kernel_rfl)) (fun _ _ _ h => h) (Or.inl ⟨by rfl, ?_⟩) ?_ ?_
      rotate_left
      ·intro w'
       go_simp
       with_reducible rfl
      rotate_left
      ·simp only [Act.put, List.setIfInBounds_toArray, List.set_cons_zero, List.set_cons_succ, i64_w, i32_w]
       rfl
      refine take_ (i := 1) (N := some 50) (v := ?_) (a' := ?_) #[true, true, true, false, true, false, false, false, true, false, true, false, true, false, false, false, true, false, false, false, false, false, false] rfl rfl (take_ofW HT_.out HW_.out (by kernel_rfl)) (fun _ _ _ h => h) (Or.inl ⟨by rfl, ?_⟩) hHeld ?_ ?_
      rotate_left
      ·rintro w' ⟨s0, s1, s2, s3, s4, s5, s6, s7, s8, s9, s10, s11⟩
       go_simp
       with_reducible rfl
      rotate_left
      ·simp only [Act.put, List.setIfInBounds_toArray, List.set_cons_zero, List.set_cons_succ, i64_w, i32_w]
       rfl
      refine take_ (i := 3) (N := some 52) (v := ?_) (a' := ?_) #[true, true, true, true, true, false, false, false, true, false, true, false, true, false, false, false, true, false, false, false, false, false, false] rfl rfl (take_ofW HT_.out HW_.out (by kernel_rfl)) (fun _ _ _ h => h) (Or.inl ⟨by rfl, ?_⟩) hHeld ?_ ?_
      rotate_left
      ·rintro w' ⟨s0, s1, s2, s3, s4, s5, s6, s7, s8, s9, s10, s11⟩
       go_simp
       with_reducible rfl
      rotate_left
      ·simp only [Act.put, List.setIfInBounds_toArray, List.set_cons_zero, List.set_cons_succ, i64_w, i32_w]
       rfl
      refine pure_ (i := 5) (N := some 54) (v := ?_) (a' := ?_) #[true, true, true, true, true, true, false, false, true, false, true, false, true, false, false, false, true, false, false, false, false, false, false] rfl rfl (any_of HT_.out (by kernel_rfl)) (fun _ _ _ h => h) (Or.inl ⟨by rfl, ?_⟩) ?_ ?_
      rotate_left
      ·intro w'
       go_simp
       with_reducible rfl
      rotate_left
      ·simp only [Act.put, List.setIfInBounds_toArray, List.set_cons_zero, List.set_cons_succ, i64_w, i32_w]
       rfl
      refine pure_ (i := 6) (N := some 55) (v := ?_) (a' := ?_) #[true, true, true, true, true, true, true, false, true, false, true, false, true, false, false, false, true, false, false, false, false, false, false] rfl rfl (any_of HT_.out (by kernel_rfl)) (fun _ _ _ h => h) (Or.inl ⟨by rfl, ?_⟩) ?_ ?_
      rotate_left
      ·intro w'
       go_simp
       with_reducible rfl
      rotate_left
      ·simp only [Act.put, List.setIfInBounds_toArray, List.set_cons_zero, List.set_cons_succ, i64_w, i32_w]
       rfl
      refine take_ (i := 7) (N := some 56) (v := ?_) (a' := ?_) #[true, true, true, true, true, true, true, true, true, false, true, false, true, false, false, false, true, false, false, false, false, false, false] rfl rfl (take_ofW HT_.out HW_.out (by kernel_rfl)) (fun _ _ _ h => h) (Or.inl ⟨by rfl, ?_⟩) hHeld ?_ ?_
      rotate_left
      ·rintro w' ⟨s0, s1, s2, s3, s4, s5, s6, s7, s8, s9, s10, s11⟩
       go_simp
       with_reducible rfl
      rotate_left
      ·simp only [Act.put, List.setIfInBounds_toArray, List.set_cons_zero, List.set_cons_succ, i64_w, i32_w]
       rfl
      refine pure_ (i := 9) (N := some 58) (v := ?_) (a' := ?_) #[true, true, true, true, true, true, true, true, true, true, true, false, true, false, false, false, true, false, false, false, false, false, false] rfl rfl (any_of HT_.out (by kernel_rfl)) (fun _ _ _ h => h) (Or.inl ⟨by rfl, ?_⟩) ?_ ?_
      rotate_left
      ·intro w'
       go_simp
       with_reducible rfl
      rotate_left
      ·simp only [Act.put, List.setIfInBounds_toArray, List.set_cons_zero, List.set_cons_succ, i64_w, i32_w]
       rfl
      refine take_ (i := 11) (N := some 60) (v := ?_) (a' := ?_) #[true, true, true, true, true, true, true, true, true, true, true, true, true, false, false, false, true, false, false, false, false, false, false] rfl rfl (take_ofW HT_.out HW_.out (by kernel_rfl)) (fun _ _ _ h => h) (Or.inl ⟨by rfl, ?_⟩) hHeld ?_ ?_
      rotate_left
      ·rintro w' ⟨s0, s1, s2, s3, s4, s5, s6, s7, s8, s9, s10, s11⟩
       go_simp
       with_reducible rfl
      rotate_left
      ·simp only [Act.put, List.setIfInBounds_toArray, List.set_cons_zero, List.set_cons_succ, i64_w, i32_w]
       rfl
      refine pure_ (i := 13) (N := some 62) (v := ?_) (a' := ?_) #[true, true, true, true, true, true, true, true, true, true, true, true, true, true, false, false, true, false, false, false, false, false, false] rfl rfl (any_of HT_.out (by kernel_rfl)) (fun _ _ _ h => h) (Or.inl ⟨by rfl, ?_⟩) ?_ ?_
      rotate_left
      ·intro w'
       go_simp
       with_reducible rfl
      rotate_left
      ·simp only [Act.put, List.setIfInBounds_toArray, List.set_cons_zero, List.set_cons_succ, i64_w, i32_w]
       rfl
      refine pure_ (i := 14) (N := some 63) (v := ?_) (a' := ?_) #[true, true, true, true, true, true, true, true, true, true, true, true, true, true, true, false, true, false, false, false, false, false, false] rfl rfl (any_of HT_.out (by kernel_rfl)) (fun _ _ _ h => h) (Or.inl ⟨by rfl, ?_⟩) ?_ ?_
      rotate_left
      ·intro w'
       go_simp
       with_reducible rfl
      rotate_left
      ·simp only [Act.put, List.setIfInBounds_toArray, List.set_cons_zero, List.set_cons_succ, i64_w, i32_w]
       rfl
      refine take_ (i := 15) (N := some 64) (v := ?_) (a' := ?_) #[true, true, true, true, true, true, true, true, true, true, true, true, true, true, true, true, true, false, false, false, false, false, false] rfl rfl (take_ofW HT_.out HW_.out (by kernel_rfl)) (fun _ _ _ h => h) (Or.inl ⟨by rfl, ?_⟩) hHeld ?_ ?_
      rotate_left
      ·rintro w' ⟨s0, s1, s2, s3, s4, s5, s6, s7, s8, s9, s10, s11⟩
       go_simp
       with_reducible rfl
      rotate_left
      ·simp only [Act.put, List.setIfInBounds_toArray, List.set_cons_zero, List.set_cons_succ, i64_w, i32_w]
       rfl
      refine pure_ (i := 17) (N := some 66) (v := ?_) (a' := ?_) #[true, true, true, true, true, true, true, true, true, true, true, true, true, true, true, true, true, true, false, false, false, false, false] rfl rfl (any_of HT_.out (by kernel_rfl)) (fun _ _ _ h => h) (Or.inl ⟨by rfl, ?_⟩) ?_ ?_
      rotate_left
      ·intro w'
       go_simp
       with_reducible rfl
      rotate_left
      ·simp only [Act.put, List.setIfInBounds_toArray, List.set_cons_zero, List.set_cons_succ, i64_w, i32_w]
       rfl
      refine pure_ (i := 18) (N := some 67) (v := ?_) (a' := ?_) #[true, true, true, true, true, true, true, true, true, true, true, true, true, true, true, true, true, true, true, false, false, false, false] rfl rfl (any_of HT_.out (by kernel_rfl)) (fun _ _ _ h => h) (Or.inl ⟨by rfl, ?_⟩) ?_ ?_
      rotate_left
      ·intro w'
       go_simp
       with_reducible rfl
      rotate_left
      ·simp only [Act.put, List.setIfInBounds_toArray, List.set_cons_zero, List.set_cons_succ, i64_w, i32_w]
       rfl
      refine one_ (i := 19) (N := some 68) #[true, true, true, true, true, true, true, true, true, true, true, true, true, true, true, true, true, true, true, true, false, false, false] rfl rfl (one_of HT_.out (by kernel_rfl)) (by decide) (fun K hK => ?_)
      refine value_ (w1 := ?_) (v := ?_) (by rfl) rfl ?_ ?_
      rotate_left 2
      ·go_simp
       constructor
       ·rfl
       ·rfl
      refine hK.out _ _ ⟨(blk_cell (blk_alloc BK693.out _) 0).trans rfl, (blk_cell (blk_alloc BK693.out _) 1).trans rfl, (blk_cell (blk_alloc BK693.out _) 2).trans rfl, (blk_cell (blk_alloc BK693.out _) 3).trans rfl, (blk_cell (blk_alloc BK690.out _) 0).trans rfl, (blk_cell (blk_alloc BK690.out _) 1).trans rfl, (blk_cell (blk_alloc BK690.out _) 2).trans rfl, (blk_cell (blk_alloc BK690.out _) 3).trans rfl, (World.cell?_alloc_lt _ _ _ (World.block_lt_of_cell? _ _ (((HB.out.cell (World.block_lt_of_cell? w _ hw694_0)).trans hw694_0)))).trans (((HB.out.cell (World.block_lt_of_cell? w _ hw694_0)).trans hw694_0)), (World.cell?_alloc_lt _ _ _ (World.block_lt_of_cell? _ _ (((HB.out.cell (World.block_lt_of_cell? w _ hw694_1)).trans hw694_1)))).trans (((HB.out.cell (World.block_lt_of_cell? w _ hw694_1)).trans hw694_1)), (World.cell?_alloc_lt _ _ _ (World.block_lt_of_cell? _ _ (((HB.out.cell (World.block_lt_of_cell? w _ hw695_0)).trans hw695_0)))).trans (((HB.out.cell (World.block_lt_of_cell? w _ hw695_0)).trans hw695_0)), (World.cell?_alloc_lt _ _ _ (World.block_lt_of_cell? _ _ (((HB.out.cell (World.block_lt_of_cell? w _ hw695_1)).trans hw695_1)))).trans (((HB.out.cell (World.block_lt_of_cell? w _ hw695_1)).trans hw695_1))⟩ (fun hHeld => ?_)
      clear hK K
      refine norm_ (a' := ?_) ?_ ?_
      rotate_left
      ·show Act.put _ (some 68) _ = _
       simp only [Act.put, List.setIfInBounds_toArray, List.set_cons_zero, List.set_cons_succ, i64_w, i32_w]
       rfl
      refine one_ (i := 20) (N := some 69) #[true, true, true, true, true, true, true, true, true, true, true, true, true, true, true, true, true, true, true, true, true, false, false] rfl rfl (one_of HT_.out (by kernel_rfl)) (by decide) (fun K hK => ?_)
      refine Kd.R_append_step k44 (w0 := w) w.heap.size (by rfl) (.tmp 50) (.tmp 68) 22 44 (.agg #[(.int .i64 0), (.int .i64 0)]) 16 rfl Try.underlying22 info44 rfl (by decide) (by omega) u694000 x694000_1 (⟨wrap64 (((rd_T44 l0_0 x11_1).f0) + (Int.tmod (wrap64 (a3)) 500)), wrap64 (((rd_T44 l0_0 x11_1).f1) + (Int.tmod (wrap64 (a3)) 500))⟩ : S44) [.int .i64 (wrap64 (((rd_T44 l0_0 x11_1).f0) + (Int.tmod (wrap64 (a3)) 500))), .int .i64 (wrap64 (((rd_T44 l0_0 x11_1).f1) + (Int.tmod (wrap64 (a3)) 500)))] (fun _ => True) (fun _ => False) rfl rfl ?aP (fun _ hk => hk.elim) ?aF ?aO ?aB ?aS ?aL ?_
      (case aP => exact k44_mkM _ _ _ (⟨wrap64 (((rd_T44 l0_0 x11_1).f0) + (Int.tmod (wrap64 (a3)) 500)), wrap64 (((rd_T44 l0_0 x11_1).f1) + (Int.tmod (wrap64 (a3)) 500))⟩ : S44))
      (case aB => exact (by repeat (first | (with_reducible first | exact HB.out | apply below_alloc | apply pw_below_drewN | apply below_drew1 | refine below_set ?_ GE690.out | refine below_set ?_ GE693.out) | exact HB.out)))
      (case aF => exact (fun _ _ => trivial))
      (case aO => exact (by (with_reducible repeat (first | apply Kd.R_alloc | apply Kd.R_drewN | apply Kd.R_drew)); exact HO_694000.out))
      (case aS => exact (below_size (by repeat (first | (with_reducible first | exact HB.out | apply below_alloc | apply pw_below_drewN | apply below_drew1 | refine below_set ?_ GE690.out | refine below_set ?_ GE693.out) | exact HB.out))))
      (case aL => have := LMc16.out; omega)
      intro v697 w20 ho hb hg hat
      rw [← Ny696.out] at ho
      have n0_ := Aside0.mk (blk_grown (g := gb690) (o := .cells #[.slice (some ad694) l0_0.length c0_0, .slice A0_1 l0_1.length c0_1, .int .i64 a0_2, .slice A0_3 l0_3.length c0_3] 26 (0, 0)) (by (with_reducible repeat (first | refine blk_drewN ?_ _ | refine blk_drew ?_ | refine blk_alloc ?_ _)); exact BK690.out) hg (Kd.R_ne HO_694000.out BK690.out (by decide)))
      have n1_ := Aside0.mk (blk_grown (g := gb693) (o := .cells #[u694000, .slice A0_1 l0_1.length c0_1, .int .i64 a0_2, .slice none 0 0] 26 (0, 0)) (by (with_reducible repeat (first | refine blk_drewN ?_ _ | refine blk_drew ?_ | refine blk_alloc ?_ _)); exact BK693.out) hg (Kd.R_ne HO_694000.out BK693.out (by decide)))
      have n2_ := Aside0.mk (hb)
      have n3_ := Aside0.mk (ho)
      clear BK690
      clear BK693
      clear HB
      clear HO_694000
      have BK690 := n0_
      have BK693 := n1_
      have HB := n2_
      have HO698 := n3_
      clear n0_ n1_ n2_ n3_
      clear ho hb hg hat
      obtain ⟨Ao21, co21, eo21⟩ := Kd.R_slice HO698.out
      (first | subst eo21 | (injection eo21 with f1_ f2_ f3_; have f4_ := f1_.symm; have f5_ := f3_.symm; clear f1_ f2_ f3_; subst f4_; subst f5_))
      refine hK.out _ _ ⟨(blk_cell BK693.out 0).trans rfl, (blk_cell BK693.out 1).trans rfl, (blk_cell BK693.out 2).trans rfl, (blk_cell BK693.out 3).trans rfl, (blk_cell BK690.out 0).trans rfl, (blk_cell BK690.out 1).trans rfl, (blk_cell BK690.out 2).trans rfl, (blk_cell BK690.out 3).trans rfl, ((HB.out.cell (World.block_lt_of_cell? w _ hw694_0)).trans hw694_0), ((HB.out.cell (World.block_lt_of_cell? w _ hw694_1)).trans hw694_1), ((HB.out.cell (World.block_lt_of_cell? w _ hw695_0)).trans hw695_0), ((HB.out.cell (World.block_lt_of_cell? w _ hw695_1)).trans hw695_1)⟩ (fun hHeld => ?_)
      clear hK K
      refine norm_ (a' := ?_) ?_ ?_
      rotate_left
      ·show Act.put _ (some 69) _ = _
       simp only [Act.put, List.setIfInBounds_toArray, List.set_cons_zero, List.set_cons_succ, i64_w, i32_w]
       rfl
      refine pure_ (i := 21) (N := some 70) (v := ?_) (a' := ?_) #[true, true, true, true, true, true, true, true, true, true, true, true, true, true, true, true, true, true, true, true, true, true, false] rfl rfl (any_of HT_.out (by kernel_rfl)) (fun _ _ _ h => h) (Or.inl ⟨by rfl, ?_⟩) ?_ ?_
      rotate_left
      ·intro w'
       go_simp
       with_reducible rfl
      rotate_left
      ·simp only [Act.put, List.setIfInBounds_toArray, List.set_cons_zero, List.set_cons_succ, i64_w, i32_w]
       rfl
      refine last_ (i := 22) (N := none) #[true, true, true, true, true, true, true, true, true, true, true, true, true, true, true, true, true, true, true, true, true, true, true] rfl rfl (one_of HT_.out (by kernel_rfl)) (by decide) (fun K hK => ?_)
      have hs22 : w20.cell? ⟨gb693, 0, none⟩ = some (u694000) := (blk_cell BK693.out 0).trans rfl
      have hfs22 := blk_frozen BK693.out 0
      have hns22_0 := NB690_693.out
      have hms22_0 := NB693_690.out
      refine skip_ (w1 := ?_) (by rfl) rfl ?_ ?_
      rotate_left
      ·go_simp
       rfl
      refine hK.out _ _ ?_
      clear hK K
      refine done_ (done_of HT_.out (by kernel_rfl)) ?_
      try go_wp2
      go_roundg k1
      case measure => have := HK1.out; omega
      case rel => exact ⟨(wrap64 (x11_1 + 1)), (y696), (.slice Ao21 y696.length co21), (by first | rfl | (simp; done) | (simp [*]; done)), H', ⟨by have := HK1.out; omega⟩, ⟨by (with_reducible repeat (first | apply Kd.R_alloc | apply Kd.R_drewN | apply Kd.R_drew)); exact Kd.R_mono (Kd.R_far (p := ⟨gb693, 0, none⟩) (Kd.R_types HO698.out BK693.out (by decide)) (fun _ hk => hk.2) (.slice Ao21 y696.length co21)) (fun _ hk => trivial)⟩, ⟨by (with_reducible repeat (first | refine blk_drewN ?_ _ | refine blk_drew ?_ | refine blk_alloc ?_ _)); refine blk_far ?_ NB690_693.out _; (with_reducible repeat (first | refine blk_drewN ?_ _ | refine blk_drew ?_ | refine blk_alloc ?_ _)); exact BK690.out⟩, ⟨by (with_reducible repeat (first | refine blk_drewN ?_ _ | refine blk_drew ?_ | refine blk_alloc ?_ _)); refine blk_put (cs := #[u694000, .slice A0_1 l0_1.length c0_1, .int .i64 a0_2, .slice none 0 0]) ?_ 0 _ rfl; (with_reducible repeat (first | refine blk_drewN ?_ _ | refine blk_drew ?_ | refine blk_alloc ?_ _)); exact BK693.out⟩, ⟨by repeat (first | (with_reducible first | exact HB.out | apply below_alloc | apply pw_below_drewN | apply below_drew1 | refine below_set ?_ GE690.out | refine below_set ?_ GE693.out) | exact HB.out)⟩⟩
     ·rw [if_neg c16] at H
      exact absurd H (by simp)
    ·rw [if_neg c15] at H
     exact absurd H (by simp)
   ·rw [if_neg c14] at H
    have c14b0 : decide (x11_1 < (l0_0.length : Int)) = false := decide_eq_false c14
    clear c14
    have H' := Aside0.mk H
    clear H
    have hnb23 := NB690_693.out
    have hnc23 := NB693_690.out
    have hcz24_0 : wr.cell? ⟨gb690, 0, none⟩ = some (.slice A0_0 l0_0.length c0_0) := (blk_cell BK690.out 0).trans rfl
    have hcz24_1 : wr.cell? ⟨gb690, 1, none⟩ = some (.slice A0_1 l0_1.length c0_1) := (blk_cell BK690.out 1).trans rfl
    have hcz24_2 : wr.cell? ⟨gb690, 2, none⟩ = some (.int .i64 a0_2) := (blk_cell BK690.out 2).trans rfl
    have hcz24_3 : wr.cell? ⟨gb690, 3, none⟩ = some (.slice A0_3 l0_3.length c0_3) := (blk_cell BK690.out 3).trans rfl
    have hfz24_0 := blk_frozen BK690.out 0
    have hfz24_1 := blk_frozen BK690.out 1
    have hfz24_2 := blk_frozen BK690.out 2
    have hfz24_3 := blk_frozen BK690.out 3
    go_wp2
    go_loopg [12] k1 (fun kq v12 w' => ∃ (x12_2 : Int) (x694003_2 : List (S62)) (u694003 : Value), v12 = .int .i64 x12_2 ∧ Aside0 (tensilelaw08_RoundMoved.l1 kq a1 a2 (Int.tmod (wrap64 (a3)) 500) x12_2 l0_0 l0_1 a0_2 l0_3 x694000_1 l0_1 a0_2 x694003_2 = some (lr, br)) ∧ Aside0 (kq ≤ k1) ∧ Aside0 (Kd.R k44 44 w' w.heap.size (fun _ => True) u694000 x694000_1) ∧ Aside0 (Kd.S k62 62 w' w.heap.size (fun _ => True) u694003 x694003_2) ∧ Aside0 (w'.heap[gb690]? = some (.cells #[(.slice A0_0 l0_0.length c0_0), (.slice A0_1 l0_1.length c0_1), .int .i64 a0_2, (.slice A0_3 l0_3.length c0_3)] 26 (0, 0))) ∧ Aside0 (w'.heap[gb693]? = some (.cells #[u694000, (.slice A0_1 l0_1.length c0_1), .int .i64 a0_2, u694003] 26 (0, 0))) ∧ Aside0 (Below w.heap.size w w'))
    case atStart => exact ⟨(0), (([] : List (S62))), (.slice none 0 0), (by first | rfl | (simp; done) | (simp [*]; done)), H', ⟨Nat.le_refl _⟩, ⟨by (with_reducible repeat (first | apply Kd.R_alloc | apply Kd.R_drewN | apply Kd.R_drew)); exact HO_694000.out⟩, ⟨by first | exact Kd.S_nil _ _ _ _ _ | exact Kd.N_nil _ _ _ _ _ | exact Kd.V_nil _ _ _ _ _ | exact Kd.Q_nil _ _ _ _ _ | exact Kd.R_nil _ _ _ _ _⟩, ⟨by (with_reducible repeat (first | refine blk_drewN ?_ _ | refine blk_drew ?_ | refine blk_alloc ?_ _)); exact BK690.out⟩, ⟨by (with_reducible repeat (first | refine blk_drewN ?_ _ | refine blk_drew ?_ | refine blk_alloc ?_ _)); exact BK693.out⟩, ⟨by repeat (first | (with_reducible first | exact HB.out | apply below_alloc | apply pw_below_drewN | apply below_drew1 | refine below_set ?_ GE690.out | refine below_set ?_ GE693.out) | exact HB.out)⟩⟩
    case round =>
     clear H'
     try clear c1
     try clear c2
     try clear p2
     try clear c3
     try clear c6
     try clear p6
     try clear q6
     try clear hx6
     try clear c12
     try clear c14
     try clear c14b0
     try clear c15
     try clear c15b0
     try clear c16
     try clear c17
     try clear c23
     try clear hcz10_0
     try clear hcz10_1
     try clear hcz10_2
     try clear hcz10_3
     try clear hcz13_0
     try clear hcz13_1
     try clear hcz13_2
     try clear hcz13_3
     try clear hcz18_0
     try clear hcz18_1
     try clear hcz18_2
     try clear hcz18_3
     try clear hcz24_0
     try clear hcz24_1
     try clear hcz24_2
     try clear hcz24_3
     try clear hcz8_0
     try clear hcz8_1
     try clear hcz8_2
     try clear hcz8_3
     try clear hfz10_0
     try clear hfz10_1
     try clear hfz10_2
     try clear hfz10_3
     try clear hfz13_0
     try clear hfz13_1
     try clear hfz13_2
     try clear hfz13_3
     try clear hfz18_0
     try clear hfz18_1
     try clear hfz18_2
     try clear hfz18_3
     try clear hfz24_0
     try clear hfz24_1
     try clear hfz24_2
     try clear hfz24_3
     try clear hfz8_0
     try clear hfz8_1
     try clear hfz8_2
     try clear hfz8_3
     try clear hx694_0
     try clear hx694_1
     try clear hx695_0
     try clear hx695_1
     try clear p2
     try clear p6
     try clear p694
     try clear p695
     try clear q694
     try clear q695
     obtain ⟨x12_2, x694003_2, u694003, rfl, HA, HK2, HO_694000, HO_694003, BK690, BK693, HB⟩ := hrel
     cases gk with
     | zero => exact absurd HA.out (by simp [tensilelaw08_RoundMoved.l1])
     | succ k2 =>
      have H := HA.out
      clear HA
      simp only [tensilelaw08_RoundMoved.l1] at H
      by_cases c25 : x12_2 < (l0_3.length : Int)
      ·rw [if_pos c25] at H
       have c25b0 : decide (x12_2 < (l0_3.length : Int)) = true := decide_eq_true c25
       clear c25
       by_cases c26 : 0 ≤ x12_2
       ·rw [if_pos c26] at H
        have c26b0 : decide (0 ≤ x12_2) = true := decide_eq_true c26
        clear c26
        have H' := Aside0.mk H
        clear H
        have hnb27 := NB690_693.out
        have hnc27 := NB693_690.out
        have hcz28_0 : wr.cell? ⟨gb690, 0, none⟩ = some (.slice A0_0 l0_0.length c0_0) := (blk_cell BK690.out 0).trans rfl
        have hcz28_1 : wr.cell? ⟨gb690, 1, none⟩ = some (.slice A0_1 l0_1.length c0_1) := (blk_cell BK690.out 1).trans rfl
        have hcz28_2 : wr.cell? ⟨gb690, 2, none⟩ = some (.int .i64 a0_2) := (blk_cell BK690.out 2).trans rfl
        have hcz28_3 : wr.cell? ⟨gb690, 3, none⟩ = some (.slice A0_3 l0_3.length c0_3) := (blk_cell BK690.out 3).trans rfl
        have hfz28_0 := blk_frozen BK690.out 0
        have hfz28_1 := blk_frozen BK690.out 1
        have hfz28_2 := blk_frozen BK690.out 2
        have hfz28_3 := blk_frozen BK690.out 3
        have p699 : 0 ≤ (x12_2 : Int) := of_decide_eq_true (by first | (with_reducible assumption) | assumption)
        have q699 : x12_2 < (l0_3.length : Int) := of_decide_eq_true (by first | (with_reducible assumption) | assumption)
        obtain ⟨ad699, A699_1, c699_1, e699, hx699_0, hx699_1, hl699_1, hi699_1⟩ := at_T62 HR0_3.out x12_2 p699 q699
        cases e699
        replace hx699_0 := (HB.out.cell (World.block_lt_of_cell? w _ hx699_0)).trans hx699_0
        replace hx699_1 := (HB.out.cell (World.block_lt_of_cell? w _ hx699_1)).trans hx699_1
        have HR699_1 := Aside0.mk hi699_1
        have HC699_1 := Aside0.mk hl699_1
        clear hi699_1 hl699_1
        replace p699 := eq_true p699
        replace q699 := eq_true q699
        go_wp2_with (first | ((with_reducible refine gate_dst (N := 13) rfl ?_); (try (refine gate_guard (by rfl) ?_; dsimp only)); refine box_event ?hg (N := 13) ?hd (cs := #[.int .i64 0, .slice none 0 0]) (t := 62) ?hr ?_; (case hd => rfl); (case hg => rfl); (case hr => first | (go_simp; done) | (go_simp; rfl)); intro gb700 hg w29 hbox hb; have n0_ := Aside0.mk (Kd.R_below (by (with_reducible repeat (first | apply Kd.R_alloc | apply Kd.R_drewN | apply Kd.R_drew)); exact HO_694000.out) hb); have n1_ := Aside0.mk (Kd.S_below (Kd.S_elderB (by (with_reducible repeat (first | apply Kd.S_alloc | apply Kd.S_drewN | apply Kd.S_drew)); exact HO_694003.out) gb700 (Nat.le_of_eq hg.symm)) hb); have n2_ := Aside0.mk (blk_below (g := gb690) (o := .cells #[.slice A0_0 l0_0.length c0_0, .slice A0_1 l0_1.length c0_1, .int .i64 a0_2, .slice (some ad699) l0_3.length c0_3] 26 (0, 0)) (by (with_reducible repeat (first | refine blk_drewN ?_ _ | refine blk_drew ?_ | refine blk_alloc ?_ _)); exact BK690.out) hb); have n3_ := Aside0.mk (blk_below (g := gb693) (o := .cells #[u694000, .slice A0_1 l0_1.length c0_1, .int .i64 a0_2, u694003] 26 (0, 0)) (by (with_reducible repeat (first | refine blk_drewN ?_ _ | refine blk_drew ?_ | refine blk_alloc ?_ _)); exact BK693.out) hb); have n4_ := Aside0.mk (below_step (by repeat (first | (with_reducible first | exact HB.out | apply below_alloc | apply pw_below_drewN | apply below_drew1 | refine below_set ?_ GE690.out | refine below_set ?_ GE693.out) | exact HB.out)) hb); have n5_ := Aside0.mk (hbox); have n6_ := Aside0.mk ((by rw [hg]; exact (below_size (by repeat (first | (with_reducible first | exact HB.out | apply below_alloc | apply pw_below_drewN | apply below_drew1 | refine below_set ?_ GE690.out | refine below_set ?_ GE693.out) | exact HB.out))) : w.heap.size ≤ gb700)); have n7_ := Aside0.mk ((by rw [hg]; exact (below_size (by repeat (first | (with_reducible first | exact HB.out | apply below_alloc | apply pw_below_drewN | apply below_drew1 | refine below_set ?_ GE690.out | refine below_set ?_ GE693.out) | exact HB.out))) : w.heap.size ≤ gb700)); have n8_ := Aside0.mk ((by rw [hg]; exact Nat.ne_of_lt (blk_lt (g := gb690) (o := .cells #[.slice A0_0 l0_0.length c0_0, .slice A0_1 l0_1.length c0_1, .int .i64 a0_2, .slice (some ad699) l0_3.length c0_3] 26 (0, 0)) (by (with_reducible repeat (first | refine blk_drewN ?_ _ | refine blk_drew ?_ | refine blk_alloc ?_ _)); exact BK690.out)) : gb690 ≠ gb700)); have n9_ := Aside0.mk ((by rw [hg]; exact Nat.ne_of_gt (blk_lt (g := gb690) (o := .cells #[.slice A0_0 l0_0.length c0_0, .slice A0_1 l0_1.length c0_1, .int .i64 a0_2, .slice (some ad699) l0_3.length c0_3] 26 (0, 0)) (by (with_reducible repeat (first | refine blk_drewN ?_ _ | refine blk_drew ?_ | refine blk_alloc ?_ _)); exact BK690.out)) : gb700 ≠ gb690)); have n10_ := Aside0.mk ((by rw [hg]; exact Nat.ne_of_lt (blk_lt (g := gb693) (o := .cells #[u694000, .slice A0_1 l0_1.length c0_1, .int .i64 a0_2, u694003] 26 (0, 0)) (by (with_reducible repeat (first | refine blk_drewN ?_ _ | refine blk_drew ?_ | refine blk_alloc ?_ _)); exact BK693.out)) : gb693 ≠ gb700)); have n11_ := Aside0.mk ((by rw [hg]; exact Nat.ne_of_gt (blk_lt (g := gb693) (o := .cells #[u694000, .slice A0_1 l0_1.length c0_1, .int .i64 a0_2, u694003] 26 (0, 0)) (by (with_reducible repeat (first | refine blk_drewN ?_ _ | refine blk_drew ?_ | refine blk_alloc ?_ _)); exact BK693.out)) : gb700 ≠ gb693)); clear HO_694000; clear HO_694003; clear BK690; clear BK693; clear HB; have HO_694000 := n0_; have HO_694003 := n1_; have BK690 := n2_; have BK693 := n3_; have HB := n4_; have BK700 := n5_; have GW700 := n6_; have GE700 := n7_; have NB690_700 := n8_; have NB700_690 := n9_; have NB693_700 := n10_; have NB700_693 := n11_; clear n0_ n1_ n2_ n3_ n4_ n5_ n6_ n7_ n8_ n9_ n10_ n11_; clear hb hbox hg; have hnb30 := NB700_690.out; have hnc30 := NB690_700.out; have hnb31 := NB700_693.out; have hnc31 := NB693_700.out; have hcz32_0 : w29.cell? ⟨gb700, 0, none⟩ = some (.int .i64 0) := (blk_cell BK700.out 0).trans rfl; have hcz32_1 : w29.cell? ⟨gb700, 1, none⟩ = some (.slice none 0 0) := (blk_cell BK700.out 1).trans rfl; have hfz32_0 := blk_frozen BK700.out 0; have hfz32_1 := blk_frozen BK700.out 1))
        go_loopg [14] k2 (fun kq v14 w' => ∃ (x14_3 : Int) (x701001_3 : List Int) (u701001 : Value), v14 = .int .i64 x14_3 ∧ Aside0 (tensilelaw08_RoundMoved.l2 kq a1 a2 (Int.tmod (wrap64 (a3)) 500) x12_2 x14_3 l0_0 l0_1 a0_2 l0_3 x694000_1 l0_1 a0_2 x694003_2 ((rd_T62 l0_3 x12_2).f0) x701001_3 = some (lr, br)) ∧ Aside0 (kq ≤ k2) ∧ Aside0 (Kd.R k44 44 w' w.heap.size (fun _ => True) u694000 x694000_1) ∧ Aside0 (Kd.S k62 62 w' w.heap.size (fun k_ => some k_ ≠ (u701001 : Value).ownBlock ∧ k_ ≠ gb700) u694003 x694003_2) ∧ Aside0 (Kd.R (Kd.int .i64) 3 w' w.heap.size (fun _ => True) u701001 x701001_3) ∧ Aside0 (w'.heap[gb690]? = some (.cells #[(.slice A0_0 l0_0.length c0_0), (.slice A0_1 l0_1.length c0_1), .int .i64 a0_2, (.slice (some ad699) l0_3.length c0_3)] 26 (0, 0))) ∧ Aside0 (w'.heap[gb693]? = some (.cells #[u694000, (.slice A0_1 l0_1.length c0_1), .int .i64 a0_2, u694003] 26 (0, 0))) ∧ Aside0 (w'.heap[gb700]? = some (.cells #[.int .i64 ((rd_T62 l0_3 x12_2).f0), u701001] 62 (0, 0))) ∧ Aside0 (Below w.heap.size w w'))
        case atStart => exact ⟨(0), (([] : List Int)), (.slice none 0 0), (by first | rfl | (simp; done) | (simp [*]; done)), H', ⟨Nat.le_refl _⟩, ⟨by (with_reducible repeat (first | apply Kd.R_alloc | apply Kd.R_drewN | apply Kd.R_drew)); exact Kd.R_mono (Kd.R_far (p := ⟨gb700, 1, none⟩) (Kd.R_far (p := ⟨gb700, 0, none⟩) (Kd.R_types HO_694000.out BK700.out (by decide)) (fun _ hk => hk.2) (.int .i64 ((rd_T62 l0_3 x12_2).f0))) (fun _ hk => hk.2) (.slice none 0 0)) (fun _ hk => trivial)⟩, ⟨by (with_reducible repeat (first | apply Kd.S_alloc | apply Kd.S_drewN | apply Kd.S_drew)); exact Kd.S_mono (Kd.S_far (p := ⟨gb700, 1, none⟩) (Kd.S_far (p := ⟨gb700, 0, none⟩) (Kd.S_mono HO_694003.out (fun k_ hk => (⟨hk, hk.2⟩ : _ ∧ k_ ≠ gb700))) (fun _ hk => hk.2) (.int .i64 ((rd_T62 l0_3 x12_2).f0))) (fun _ hk => hk.2) (.slice none 0 0)) (fun _ hk => ⟨(by simp [Value.ownBlock]), hk.1.2⟩)⟩, ⟨by first | exact Kd.R_nil _ _ _ _ _ | exact Kd.N_nil _ _ _ _ _ | exact Kd.V_nil _ _ _ _ _ | exact Kd.Q_nil _ _ _ _ _ | exact Kd.S_nil _ _ _ _ _⟩, ⟨by (with_reducible repeat (first | refine blk_drewN ?_ _ | refine blk_drew ?_ | refine blk_alloc ?_ _)); refine blk_far ?_ NB690_700.out _; (with_reducible repeat (first | refine blk_drewN ?_ _ | refine blk_drew ?_ | refine blk_alloc ?_ _)); refine blk_far ?_ NB690_700.out _; (with_reducible repeat (first | refine blk_drewN ?_ _ | refine blk_drew ?_ | refine blk_alloc ?_ _)); exact BK690.out⟩, ⟨by (with_reducible repeat (first | refine blk_drewN ?_ _ | refine blk_drew ?_ | refine blk_alloc ?_ _)); refine blk_far ?_ NB693_700.out _; (with_reducible repeat (first | refine blk_drewN ?_ _ | refine blk_drew ?_ | refine blk_alloc ?_ _)); refine blk_far ?_ NB693_700.out _; (with_reducible repeat (first | refine blk_drewN ?_ _ | refine blk_drew ?_ | refine blk_alloc ?_ _)); exact BK693.out⟩, ⟨by (with_reducible repeat (first | refine blk_drewN ?_ _ | refine blk_drew ?_ | refine blk_alloc ?_ _)); refine blk_put (cs := #[.int .i64 ((rd_T62 l0_3 x12_2).f0), .slice none 0 0]) ?_ 1 _ rfl; (with_reducible repeat (first | refine blk_drewN ?_ _ | refine blk_drew ?_ | refine blk_alloc ?_ _)); refine blk_put (cs := #[.int .i64 0, .slice none 0 0]) ?_ 0 _ rfl; (with_reducible repeat (first | refine blk_drewN ?_ _ | refine blk_drew ?_ | refine blk_alloc ?_ _)); exact BK700.out⟩, ⟨by repeat (first | (with_reducible first | exact HB.out | apply below_alloc | apply pw_below_drewN | apply below_drew1 | refine below_set ?_ GE690.out | refine below_set ?_ GE693.out | refine below_set ?_ GE700.out) | exact HB.out)⟩⟩
        case round =>
         clear H'
         try clear c1
         try clear c2
         try clear p2
         try clear c3
         try clear c6
         try clear p6
         try clear q6
         try clear hx6
         try clear c12
         try clear c14
         try clear c14b0
         try clear c15
         try clear c15b0
         try clear c16
         try clear c17
         try clear c23
         try clear c25
         try clear c25b0
         try clear c26
         try clear c26b0
         try clear c27
         try clear c30
         try clear c31
         try clear hcz10_0
         try clear hcz10_1
         try clear hcz10_2
         try clear hcz10_3
         try clear hcz13_0
         try clear hcz13_1
         try clear hcz13_2
         try clear hcz13_3
         try clear hcz18_0
         try clear hcz18_1
         try clear hcz18_2
         try clear hcz18_3
         try clear hcz24_0
         try clear hcz24_1
         try clear hcz24_2
         try clear hcz24_3
         try clear hcz28_0
         try clear hcz28_1
         try clear hcz28_2
         try clear hcz28_3
         try clear hcz32_0
         try clear hcz32_1
         try clear hcz8_0
         try clear hcz8_1
         try clear hcz8_2
         try clear hcz8_3
         try clear hfz10_0
         try clear hfz10_1
         try clear hfz10_2
         try clear hfz10_3
         try clear hfz13_0
         try clear hfz13_1
         try clear hfz13_2
         try clear hfz13_3
         try clear hfz18_0
         try clear hfz18_1
         try clear hfz18_2
         try clear hfz18_3
         try clear hfz24_0
         try clear hfz24_1
         try clear hfz24_2
         try clear hfz24_3
         try clear hfz28_0
         try clear hfz28_1
         try clear hfz28_2
         try clear hfz28_3
         try clear hfz32_0
         try clear hfz32_1
         try clear hfz8_0
         try clear hfz8_1
         try clear hfz8_2
         try clear hfz8_3
         try clear hx694_0
         try clear hx694_1
         try clear hx695_0
         try clear hx695_1
         try clear hx699_0
         try clear hx699_1
         try clear p2
         try clear p6
         try clear p694
         try clear p695
         try clear p699
         try clear q6
         try clear q694
         try clear q695
         try clear q699
         obtain ⟨x14_3, x701001_3, u701001, rfl, HA, HK3, HO_694000, HO_694003, HO_701001, BK690, BK693, BK700, HB⟩ := hrel
         cases gk with
         | zero => exact absurd HA.out (by simp [tensilelaw08_RoundMoved.l2])
         | succ k3 =>
          have H := HA.out
          clear HA
          simp only [tensilelaw08_RoundMoved.l2] at H
          by_cases c33 : 0 ≤ x12_2
          ·rw [if_pos c33] at H
           have c33b0 : decide (0 ≤ x12_2) = true := decide_eq_true c33
           clear c33
           by_cases c34 : x12_2 < (l0_3.length : Int)
           ·rw [if_pos c34] at H
            have c34b0 : decide (x12_2 < (l0_3.length : Int)) = true := decide_eq_true c34
            clear c34
            by_cases c35 : x14_3 < (((rd_T62 l0_3 x12_2).f1).length : Int)
            ·rw [if_pos c35] at H
             have c35b0 : decide (x14_3 < (((rd_T62 l0_3 x12_2).f1).length : Int)) = true := decide_eq_true c35
             clear c35
             by_cases c36 : 0 ≤ x14_3
             ·rw [if_pos c36] at H
              have c36b0 : decide (0 ≤ x14_3) = true := decide_eq_true c36
              clear c36
              by_cases c37 : (rd ((rd_T62 l0_3 x12_2).f1) x14_3) ≥ 0
              ·rw [if_pos c37] at H
               have c37b0 : decide (0 ≤ (rd ((rd_T62 l0_3 x12_2).f1) x14_3)) = true := decide_eq_true c37
               clear c37
               by_cases c38 : x701001_3.length < 17592186044416
               ·rw [if_pos c38] at H
                have LMc38 := Aside0.mk c38
                clear c38
                obtain ⟨y704, hy704⟩ : ∃ y_ : List Int, y_ = (x701001_3 ++ [wrap64 ((rd ((rd_T62 l0_3 x12_2).f1) x14_3) + (Int.tmod (wrap64 (a3)) 500))]) := ⟨_, rfl⟩
                replace H : (tensilelaw08_RoundMoved.l2 k3 a1 a2 (Int.tmod (wrap64 (a3)) 500) x12_2 (wrap64 (x14_3 + 1)) l0_0 l0_1 a0_2 l0_3 x694000_1 l0_1 a0_2 x694003_2 ((rd_T62 l0_3 x12_2).f0) y704) = some (lr, br) := by first | (rw [hy704]; with_reducible exact H) | (have H2_ := (Option.bind_some _ _).symm.trans H; rw [hy704]; with_reducible exact H2_) | (have H2_ := (Option.bind_some _ _).symm.trans H; with_reducible exact H2_) | with_reducible exact H | (rw [hy704]; exact H) | exact H
                have Ny704 := Aside0.mk hy704
                clear hy704
                have H' := Aside0.mk H
                clear H
                have hnb39 := NB690_693.out
                have hnc39 := NB693_690.out
                have hnb40 := NB690_700.out
                have hnc40 := NB700_690.out
                have hcz41_0 : wr.cell? ⟨gb690, 0, none⟩ = some (.slice A0_0 l0_0.length c0_0) := (blk_cell BK690.out 0).trans rfl
                have hcz41_1 : wr.cell? ⟨gb690, 1, none⟩ = some (.slice A0_1 l0_1.length c0_1) := (blk_cell BK690.out 1).trans rfl
                have hcz41_2 : wr.cell? ⟨gb690, 2, none⟩ = some (.int .i64 a0_2) := (blk_cell BK690.out 2).trans rfl
                have hcz41_3 : wr.cell? ⟨gb690, 3, none⟩ = some (.slice (some ad699) l0_3.length c0_3) := (blk_cell BK690.out 3).trans rfl
                have hfz41_0 := blk_frozen BK690.out 0
                have hfz41_1 := blk_frozen BK690.out 1
                have hfz41_2 := blk_frozen BK690.out 2
                have hfz41_3 := blk_frozen BK690.out 3
                have p701 : 0 ≤ (x12_2 : Int) := of_decide_eq_true (by first | (with_reducible assumption) | assumption)
                have q701 : x12_2 < (l0_3.length : Int) := of_decide_eq_true (by first | (with_reducible assumption) | assumption)
                obtain ⟨ad701, A701_1, c701_1, e701, hx701_0, hx701_1, hl701_1, hi701_1⟩ := at_T62 HR0_3.out x12_2 p701 q701
                obtain rfl : ad699 = ad701 := (by injection e701)
                replace hx701_0 := (HB.out.cell (World.block_lt_of_cell? w _ hx701_0)).trans hx701_0
                replace hx701_1 := (HB.out.cell (World.block_lt_of_cell? w _ hx701_1)).trans hx701_1
                have HR701_1 := Aside0.mk hi701_1
                have HC701_1 := Aside0.mk hl701_1
                clear hi701_1 hl701_1
                replace p701 := eq_true p701
                replace q701 := eq_true q701
                have p702 : 0 ≤ (x12_2 : Int) := of_decide_eq_true (by first | (with_reducible assumption) | assumption)
                have q702 : x12_2 < (l0_3.length : Int) := of_decide_eq_true (by first | (with_reducible assumption) | assumption)
                obtain ⟨ad702, A702_1, c702_1, e702, hx702_0, hx702_1, hl702_1, hi702_1⟩ := at_T62 HR0_3.out x12_2 p702 q702
                obtain rfl : ad699 = ad702 := (by injection e702)
                replace hx702_0 := (HB.out.cell (World.block_lt_of_cell? w _ hx702_0)).trans hx702_0
                replace hx702_1 := (HB.out.cell (World.block_lt_of_cell? w _ hx702_1)).trans hx702_1
                have HR702_1 := Aside0.mk hi702_1
                have HC702_1 := Aside0.mk hl702_1
                clear hi702_1 hl702_1
                replace p702 := eq_true p702
                replace q702 := eq_true q702
                have ea_ := Option.some.inj (hx701_1.symm.trans hx702_1)
                injection ea_ with ea_ en_ ec_
                subst ea_
                subst ec_
                clear en_
                have p703 : 0 ≤ (x14_3 : Int) := of_decide_eq_true (by first | (with_reducible assumption) | assumption)
                have q703 : x14_3 < (((rd_T62 l0_3 x12_2).f1).length : Int) := of_decide_eq_true (by first | (with_reducible assumption) | assumption)
                obtain ⟨ad703, e703, hx703_0⟩ := Kd.at_int HR702_1.out x14_3 p703 q703
                cases e703
                replace hx703_0 := (HB.out.cell (World.block_lt_of_cell? w _ hx703_0)).trans hx703_0
                replace p703 := eq_true p703
                replace q703 := eq_true q703
                have hnb42 := NB700_693.out
                have hnc42 := NB693_700.out
                have hcz43_0 : wr.cell? ⟨gb700, 0, none⟩ = some (.int .i64 ((rd_T62 l0_3 x12_2).f0)) := (blk_cell BK700.out 0).trans rfl
                have hcz43_1 : wr.cell? ⟨gb700, 1, none⟩ = some (u701001) := (blk_cell BK700.out 1).trans rfl
                have hfz43_0 := blk_frozen BK700.out 0
                have hfz43_1 := blk_frozen BK700.out 1
                go_wp2_with (first | ((with_reducible refine gate_builtin (b := .append) (xs := #[.tmp 111, .tmp 113]) rfl ?_); (try (refine gate_guard (by rfl) ?_; dsimp only)); at_builtin; refine Kd.R_append (Kd.int .i64) (w0 := w) w.heap.size rfl (.tmp 111) (.tmp 113) 23 3 (.int .i64 0) 8 rfl Try.underlying23 info3 rfl (by decide) (by omega) u701001 x701001_3 (wrap64 ((rd ((rd_T62 l0_3 x12_2).f1) x14_3) + (Int.tmod (wrap64 (a3)) 500))) [.int .i64 (wrap64 ((rd ((rd_T62 l0_3 x12_2).f1) x14_3) + (Int.tmod (wrap64 (a3)) 500)))] (fun _ => True) (fun _ => False) rfl rfl ?aP (fun _ hk => hk.elim) ?aF ?aO ?aB ?aS ?aL ?_; (case aP => exact rfl); (case aB => exact (by repeat (first | (with_reducible first | exact HB.out | apply below_alloc | apply pw_below_drewN | apply below_drew1 | refine below_set ?_ GE690.out | refine below_set ?_ GE693.out | refine below_set ?_ GE700.out) | exact HB.out))); (case aF => exact (fun _ _ => trivial)); (case aO => exact (by (with_reducible repeat (first | apply Kd.R_alloc | apply Kd.R_drewN | apply Kd.R_drew)); exact HO_701001.out)); (case aS => exact (below_size (by repeat (first | (with_reducible first | exact HB.out | apply below_alloc | apply pw_below_drewN | apply below_drew1 | refine below_set ?_ GE690.out | refine below_set ?_ GE693.out | refine below_set ?_ GE700.out) | exact HB.out)))); (case aL => have := LMc38.out; omega); intro v705 w44 ho hb hg hat; rw [← Ny704.out] at ho; have n0_ := Aside0.mk (Kd.R_over' (by (with_reducible repeat (first | apply Kd.R_alloc | apply Kd.R_drewN | apply Kd.R_drew)); exact HO_694000.out) (Kd.R_typed (by (with_reducible repeat (first | apply Kd.R_alloc | apply Kd.R_drewN | apply Kd.R_drew)); exact HO_701001.out)) (by decide) hg); have n1_ := Aside0.mk (Kd.S_after (ok := (fun k_ => k_ ≠ gb700)) (by (with_reducible repeat (first | apply Kd.S_alloc | apply Kd.S_drewN | apply Kd.S_drew)); exact Kd.S_mono HO_694003.out (fun _ hk => ⟨hk.2, hk.1⟩)) hg hat); have n2_ := Aside0.mk (blk_grown (g := gb690) (o := .cells #[.slice A0_0 l0_0.length c0_0, .slice A0_1 l0_1.length c0_1, .int .i64 a0_2, .slice (some ad699) l0_3.length c0_3] 26 (0, 0)) (by (with_reducible repeat (first | refine blk_drewN ?_ _ | refine blk_drew ?_ | refine blk_alloc ?_ _)); exact BK690.out) hg (Kd.R_ne HO_701001.out BK690.out (by decide))); have n3_ := Aside0.mk (blk_grown (g := gb693) (o := .cells #[u694000, .slice A0_1 l0_1.length c0_1, .int .i64 a0_2, u694003] 26 (0, 0)) (by (with_reducible repeat (first | refine blk_drewN ?_ _ | refine blk_drew ?_ | refine blk_alloc ?_ _)); exact BK693.out) hg (Kd.R_ne HO_701001.out BK693.out (by decide))); have n4_ := Aside0.mk (blk_grown (g := gb700) (o := .cells #[.int .i64 ((rd_T62 l0_3 x12_2).f0), u701001] 62 (0, 0)) (by (with_reducible repeat (first | refine blk_drewN ?_ _ | refine blk_drew ?_ | refine blk_alloc ?_ _)); exact BK700.out) hg (Kd.R_ne HO_701001.out BK700.out (by decide))); have n5_ := Aside0.mk (hb); have n6_ := Aside0.mk (ho); clear HO_694000; clear HO_694003; clear BK690; clear BK693; clear BK700; clear HB; clear HO_701001; have HO_694000 := n0_; have HO_694003 := n1_; have BK690 := n2_; have BK693 := n3_; have BK700 := n4_; have HB := n5_; have HO706 := n6_; clear n0_ n1_ n2_ n3_ n4_ n5_ n6_; clear ho hb hg hat; obtain ⟨Ao45, co45, eo45⟩ := Kd.R_slice HO706.out; subst eo45; have hcz46_0 : w44.cell? ⟨gb700, 0, none⟩ = some (.int .i64 ((rd_T62 l0_3 x12_2).f0)) := (blk_cell BK700.out 0).trans rfl; have hcz46_1 : w44.cell? ⟨gb700, 1, none⟩ = some (u701001) := (blk_cell BK700.out 1).trans rfl; have hfz46_0 := blk_frozen BK700.out 0; have hfz46_1 := blk_frozen BK700.out 1))
                go_roundg k3
                case measure => have := HK1.out; have := HK2.out; have := HK3.out; omega
                case rel => exact ⟨(wrap64 (x14_3 + 1)), (y704), (.slice Ao45 y704.length co45), (by first | rfl | (simp; done) | (simp [*]; done)), H', ⟨by have := HK1.out; have := HK2.out; have := HK3.out; omega⟩, ⟨by (with_reducible repeat (first | apply Kd.R_alloc | apply Kd.R_drewN | apply Kd.R_drew)); exact Kd.R_mono (Kd.R_far (p := ⟨gb700, 1, none⟩) (Kd.R_types HO_694000.out BK700.out (by decide)) (fun _ hk => hk.2) (.slice Ao45 y704.length co45)) (fun _ hk => trivial)⟩, ⟨by (with_reducible repeat (first | apply Kd.S_alloc | apply Kd.S_drewN | apply Kd.S_drew)); exact Kd.S_mono (Kd.S_far (p := ⟨gb700, 1, none⟩) (Kd.S_mono HO_694003.out (fun k_ hk => (⟨hk, hk.1⟩ : _ ∧ k_ ≠ gb700))) (fun _ hk => hk.2) (.slice Ao45 y704.length co45)) (fun _ hk => ⟨hk.1.2, hk.1.1⟩)⟩, ⟨by (with_reducible repeat (first | apply Kd.R_alloc | apply Kd.R_drewN | apply Kd.R_drew)); exact Kd.R_mono (Kd.R_far (p := ⟨gb700, 1, none⟩) (Kd.R_types HO706.out BK700.out (by decide)) (fun _ hk => hk.2) (.slice Ao45 y704.length co45)) (fun _ hk => trivial)⟩, ⟨by (with_reducible repeat (first | refine blk_drewN ?_ _ | refine blk_drew ?_ | refine blk_alloc ?_ _)); refine blk_far ?_ NB690_700.out _; (with_reducible repeat (first | refine blk_drewN ?_ _ | refine blk_drew ?_ | refine blk_alloc ?_ _)); exact BK690.out⟩, ⟨by (with_reducible repeat (first | refine blk_drewN ?_ _ | refine blk_drew ?_ | refine blk_alloc ?_ _)); refine blk_far ?_ NB693_700.out _; (with_reducible repeat (first | refine blk_drewN ?_ _ | refine blk_drew ?_ | refine blk_alloc ?_ _)); exact BK693.out⟩, ⟨by (with_reducible repeat (first | refine blk_drewN ?_ _ | refine blk_drew ?_ | refine blk_alloc ?_ _)); refine blk_put (cs := #[.int .i64 ((rd_T62 l0_3 x12_2).f0), u701001]) ?_ 1 _ rfl; (with_reducible repeat (first | refine blk_drewN ?_ _ | refine blk_drew ?_ | refine blk_alloc ?_ _)); exact BK700.out⟩, ⟨by repeat (first | (with_reducible first | exact HB.out | apply below_alloc | apply pw_below_drewN | apply below_drew1 | refine below_set ?_ GE690.out | refine below_set ?_ GE693.out | refine below_set ?_ GE700.out) | exact HB.out)⟩⟩
               ·rw [if_neg c38] at H
                exact absurd H (by simp)
              ·rw [if_neg c37] at H
               have c37b0 : decide (0 ≤ (rd ((rd_T62 l0_3 x12_2).f1) x14_3)) = false := decide_eq_false c37
               clear c37
               by_cases c47 : x701001_3.length < 17592186044416
               ·rw [if_pos c47] at H
                have LMc47 := Aside0.mk c47
                clear c47
                obtain ⟨y707, hy707⟩ : ∃ y_ : List Int, y_ = (x701001_3 ++ [rd ((rd_T62 l0_3 x12_2).f1) x14_3]) := ⟨_, rfl⟩
                replace H : (tensilelaw08_RoundMoved.l2 k3 a1 a2 (Int.tmod (wrap64 (a3)) 500) x12_2 (wrap64 (x14_3 + 1)) l0_0 l0_1 a0_2 l0_3 x694000_1 l0_1 a0_2 x694003_2 ((rd_T62 l0_3 x12_2).f0) y707) = some (lr, br) := by first | (rw [hy707]; with_reducible exact H) | (have H2_ := (Option.bind_some _ _).symm.trans H; rw [hy707]; with_reducible exact H2_) | (have H2_ := (Option.bind_some _ _).symm.trans H; with_reducible exact H2_) | with_reducible exact H | (rw [hy707]; exact H) | exact H
                have Ny707 := Aside0.mk hy707
                clear hy707
                have H' := Aside0.mk H
                clear H
                have hnb48 := NB690_693.out
                have hnc48 := NB693_690.out
                have hnb49 := NB690_700.out
                have hnc49 := NB700_690.out
                have hcz50_0 : wr.cell? ⟨gb690, 0, none⟩ = some (.slice A0_0 l0_0.length c0_0) := (blk_cell BK690.out 0).trans rfl
                have hcz50_1 : wr.cell? ⟨gb690, 1, none⟩ = some (.slice A0_1 l0_1.length c0_1) := (blk_cell BK690.out 1).trans rfl
                have hcz50_2 : wr.cell? ⟨gb690, 2, none⟩ = some (.int .i64 a0_2) := (blk_cell BK690.out 2).trans rfl
                have hcz50_3 : wr.cell? ⟨gb690, 3, none⟩ = some (.slice (some ad699) l0_3.length c0_3) := (blk_cell BK690.out 3).trans rfl
                have hfz50_0 := blk_frozen BK690.out 0
                have hfz50_1 := blk_frozen BK690.out 1
                have hfz50_2 := blk_frozen BK690.out 2
                have hfz50_3 := blk_frozen BK690.out 3
                have p701 : 0 ≤ (x12_2 : Int) := of_decide_eq_true (by first | (with_reducible assumption) | assumption)
                have q701 : x12_2 < (l0_3.length : Int) := of_decide_eq_true (by first | (with_reducible assumption) | assumption)
                obtain ⟨ad701, A701_1, c701_1, e701, hx701_0, hx701_1, hl701_1, hi701_1⟩ := at_T62 HR0_3.out x12_2 p701 q701
                obtain rfl : ad699 = ad701 := (by injection e701)
                replace hx701_0 := (HB.out.cell (World.block_lt_of_cell? w _ hx701_0)).trans hx701_0
                replace hx701_1 := (HB.out.cell (World.block_lt_of_cell? w _ hx701_1)).trans hx701_1
                have HR701_1 := Aside0.mk hi701_1
                have HC701_1 := Aside0.mk hl701_1
                clear hi701_1 hl701_1
                replace p701 := eq_true p701
                replace q701 := eq_true q701
                have p702 : 0 ≤ (x12_2 : Int) := of_decide_eq_true (by first | (with_reducible assumption) | assumption)
                have q702 : x12_2 < (l0_3.length : Int) := of_decide_eq_true (by first | (with_reducible assumption) | assumption)
                obtain ⟨ad702, A702_1, c702_1, e702, hx702_0, hx702_1, hl702_1, hi702_1⟩ := at_T62 HR0_3.out x12_2 p702 q702
                obtain rfl : ad699 = ad702 := (by injection e702)
                replace hx702_0 := (HB.out.cell (World.block_lt_of_cell? w _ hx702_0)).trans hx702_0
                replace hx702_1 := (HB.out.cell (World.block_lt_of_cell? w _ hx702_1)).trans hx702_1
                have HR702_1 := Aside0.mk hi702_1
                have HC702_1 := Aside0.mk hl702_1
                clear hi702_1 hl702_1
                replace p702 := eq_true p702
                replace q702 := eq_true q702
                have ea_ := Option.some.inj (hx701_1.symm.trans hx702_1)
                injection ea_ with ea_ en_ ec_
                subst ea_
                subst ec_
                clear en_
                have p703 : 0 ≤ (x14_3 : Int) := of_decide_eq_true (by first | (with_reducible assumption) | assumption)
                have q703 : x14_3 < (((rd_T62 l0_3 x12_2).f1).length : Int) := of_decide_eq_true (by first | (with_reducible assumption) | assumption)
                obtain ⟨ad703, e703, hx703_0⟩ := Kd.at_int HR702_1.out x14_3 p703 q703
                cases e703
                replace hx703_0 := (HB.out.cell (World.block_lt_of_cell? w _ hx703_0)).trans hx703_0
                replace p703 := eq_true p703
                replace q703 := eq_true q703
                have hnb51 := NB700_693.out
                have hnc51 := NB693_700.out
                have hcz52_0 : wr.cell? ⟨gb700, 0, none⟩ = some (.int .i64 ((rd_T62 l0_3 x12_2).f0)) := (blk_cell BK700.out 0).trans rfl
                have hcz52_1 : wr.cell? ⟨gb700, 1, none⟩ = some (u701001) := (blk_cell BK700.out 1).trans rfl
                have hfz52_0 := blk_frozen BK700.out 0
                have hfz52_1 := blk_frozen BK700.out 1
                go_wp2_with (first | ((with_reducible refine gate_builtin (b := .append) (xs := #[.tmp 111, .tmp 113]) rfl ?_); (try (refine gate_guard (by rfl) ?_; dsimp only)); at_builtin; refine Kd.R_append (Kd.int .i64) (w0 := w) w.heap.size rfl (.tmp 111) (.tmp 113) 23 3 (.int .i64 0) 8 rfl Try.underlying23 info3 rfl (by decide) (by omega) u701001 x701001_3 (rd ((rd_T62 l0_3 x12_2).f1) x14_3) [.int .i64 (rd ((rd_T62 l0_3 x12_2).f1) x14_3)] (fun _ => True) (fun _ => False) rfl rfl ?aP (fun _ hk => hk.elim) ?aF ?aO ?aB ?aS ?aL ?_; (case aP => exact rfl); (case aB => exact (by repeat (first | (with_reducible first | exact HB.out | apply below_alloc | apply pw_below_drewN | apply below_drew1 | refine below_set ?_ GE690.out | refine below_set ?_ GE693.out | refine below_set ?_ GE700.out) | exact HB.out))); (case aF => exact (fun _ _ => trivial)); (case aO => exact (by (with_reducible repeat (first | apply Kd.R_alloc | apply Kd.R_drewN | apply Kd.R_drew)); exact HO_701001.out)); (case aS => exact (below_size (by repeat (first | (with_reducible first | exact HB.out | apply below_alloc | apply pw_below_drewN | apply below_drew1 | refine below_set ?_ GE690.out | refine below_set ?_ GE693.out | refine below_set ?_ GE700.out) | exact HB.out)))); (case aL => have := LMc47.out; omega); intro v708 w53 ho hb hg hat; rw [← Ny707.out] at ho; have n0_ := Aside0.mk (Kd.R_over' (by (with_reducible repeat (first | apply Kd.R_alloc | apply Kd.R_drewN | apply Kd.R_drew)); exact HO_694000.out) (Kd.R_typed (by (with_reducible repeat (first | apply Kd.R_alloc | apply Kd.R_drewN | apply Kd.R_drew)); exact HO_701001.out)) (by decide) hg); have n1_ := Aside0.mk (Kd.S_after (ok := (fun k_ => k_ ≠ gb700)) (by (with_reducible repeat (first | apply Kd.S_alloc | apply Kd.S_drewN | apply Kd.S_drew)); exact Kd.S_mono HO_694003.out (fun _ hk => ⟨hk.2, hk.1⟩)) hg hat); have n2_ := Aside0.mk (blk_grown (g := gb690) (o := .cells #[.slice A0_0 l0_0.length c0_0, .slice A0_1 l0_1.length c0_1, .int .i64 a0_2, .slice (some ad699) l0_3.length c0_3] 26 (0, 0)) (by (with_reducible repeat (first | refine blk_drewN ?_ _ | refine blk_drew ?_ | refine blk_alloc ?_ _)); exact BK690.out) hg (Kd.R_ne HO_701001.out BK690.out (by decide))); have n3_ := Aside0.mk (blk_grown (g := gb693) (o := .cells #[u694000, .slice A0_1 l0_1.length c0_1, .int .i64 a0_2, u694003] 26 (0, 0)) (by (with_reducible repeat (first | refine blk_drewN ?_ _ | refine blk_drew ?_ | refine blk_alloc ?_ _)); exact BK693.out) hg (Kd.R_ne HO_701001.out BK693.out (by decide))); have n4_ := Aside0.mk (blk_grown (g := gb700) (o := .cells #[.int .i64 ((rd_T62 l0_3 x12_2).f0), u701001] 62 (0, 0)) (by (with_reducible repeat (first | refine blk_drewN ?_ _ | refine blk_drew ?_ | refine blk_alloc ?_ _)); exact BK700.out) hg (Kd.R_ne HO_701001.out BK700.out (by decide))); have n5_ := Aside0.mk (hb); have n6_ := Aside0.mk (ho); clear HO_694000; clear HO_694003; clear BK690; clear BK693; clear BK700; clear HB; clear HO_701001; have HO_694000 := n0_; have HO_694003 := n1_; have BK690 := n2_; have BK693 := n3_; have BK700 := n4_; have HB := n5_; have HO709 := n6_; clear n0_ n1_ n2_ n3_ n4_ n5_ n6_; clear ho hb hg hat; obtain ⟨Ao54, co54, eo54⟩ := Kd.R_slice HO709.out; subst eo54; have hcz55_0 : w53.cell? ⟨gb700, 0, none⟩ = some (.int .i64 ((rd_T62 l0_3 x12_2).f0)) := (blk_cell BK700.out 0).trans rfl; have hcz55_1 : w53.cell? ⟨gb700, 1, none⟩ = some (u701001) := (blk_cell BK700.out 1).trans rfl; have hfz55_0 := blk_frozen BK700.out 0; have hfz55_1 := blk_frozen BK700.out 1))
                go_roundg k3
                case measure => have := HK1.out; have := HK2.out; have := HK3.out; omega
                case rel => exact ⟨(wrap64 (x14_3 + 1)), (y707), (.slice Ao54 y707.length co54), (by first | rfl | (simp; done) | (simp [*]; done)), H', ⟨by have := HK1.out; have := HK2.out; have := HK3.out; omega⟩, ⟨by (with_reducible repeat (first | apply Kd.R_alloc | apply Kd.R_drewN | apply Kd.R_drew)); exact Kd.R_mono (Kd.R_far (p := ⟨gb700, 1, none⟩) (Kd.R_types HO_694000.out BK700.out (by decide)) (fun _ hk => hk.2) (.slice Ao54 y707.length co54)) (fun _ hk => trivial)⟩, ⟨by (with_reducible repeat (first | apply Kd.S_alloc | apply Kd.S_drewN | apply Kd.S_drew)); exact Kd.S_mono (Kd.S_far (p := ⟨gb700, 1, none⟩) (Kd.S_mono HO_694003.out (fun k_ hk => (⟨hk, hk.1⟩ : _ ∧ k_ ≠ gb700))) (fun _ hk => hk.2) (.slice Ao54 y707.length co54)) (fun _ hk => ⟨hk.1.2, hk.1.1⟩)⟩, ⟨by (with_reducible repeat (first | apply Kd.R_alloc | apply Kd.R_drewN | apply Kd.R_drew)); exact Kd.R_mono (Kd.R_far (p := ⟨gb700, 1, none⟩) (Kd.R_types HO709.out BK700.out (by decide)) (fun _ hk => hk.2) (.slice Ao54 y707.length co54)) (fun _ hk => trivial)⟩, ⟨by (with_reducible repeat (first | refine blk_drewN ?_ _ | refine blk_drew ?_ | refine blk_alloc ?_ _)); refine blk_far ?_ NB690_700.out _; (with_reducible repeat (first | refine blk_drewN ?_ _ | refine blk_drew ?_ | refine blk_alloc ?_ _)); exact BK690.out⟩, ⟨by (with_reducible repeat (first | refine blk_drewN ?_ _ | refine blk_drew ?_ | refine blk_alloc ?_ _)); refine blk_far ?_ NB693_700.out _; (with_reducible repeat (first | refine blk_drewN ?_ _ | refine blk_drew ?_ | refine blk_alloc ?_ _)); exact BK693.out⟩, ⟨by (with_reducible repeat (first | refine blk_drewN ?_ _ | refine blk_drew ?_ | refine blk_alloc ?_ _)); refine blk_put (cs := #[.int .i64 ((rd_T62 l0_3 x12_2).f0), u701001]) ?_ 1 _ rfl; (with_reducible repeat (first | refine blk_drewN ?_ _ | refine blk_drew ?_ | refine blk_alloc ?_ _)); exact BK700.out⟩, ⟨by repeat (first | (with_reducible first | exact HB.out | apply below_alloc | apply pw_below_drewN | apply below_drew1 | refine below_set ?_ GE690.out | refine below_set ?_ GE693.out | refine below_set ?_ GE700.out) | exact HB.out)⟩⟩
               ·rw [if_neg c47] at H
                exact absurd H (by simp)
             ·rw [if_neg c36] at H
              exact absurd H (by simp)
            ·rw [if_neg c35] at H
             have c35b0 : decide (x14_3 < (((rd_T62 l0_3 x12_2).f1).length : Int)) = false := decide_eq_false c35
             clear c35
             by_cases c56 : x694003_2.length < 4398046511104
             ·rw [if_pos c56] at H
              have LMc56 := Aside0.mk c56
              clear c56
              obtain ⟨y710, hy710⟩ : ∃ y_ : List (S62), y_ = (x694003_2 ++ [(⟨((rd_T62 l0_3 x12_2).f0), x701001_3⟩ : S62)]) := ⟨_, rfl⟩
              replace H : (tensilelaw08_RoundMoved.l1 k3 a1 a2 (Int.tmod (wrap64 (a3)) 500) (wrap64 (x12_2 + 1)) l0_0 l0_1 a0_2 l0_3 x694000_1 l0_1 a0_2 y710) = some (lr, br) := by first | (rw [hy710]; with_reducible exact H) | (have H2_ := (Option.bind_some _ _).symm.trans H; rw [hy710]; with_reducible exact H2_) | (have H2_ := (Option.bind_some _ _).symm.trans H; with_reducible exact H2_) | with_reducible exact H | (rw [hy710]; exact H) | exact H
              have Ny710 := Aside0.mk hy710
              clear hy710
              have H' := Aside0.mk H
              clear H
              have hnb57 := NB690_693.out
              have hnc57 := NB693_690.out
              have hnb58 := NB690_700.out
              have hnc58 := NB700_690.out
              have hcz59_0 : wr.cell? ⟨gb690, 0, none⟩ = some (.slice A0_0 l0_0.length c0_0) := (blk_cell BK690.out 0).trans rfl
              have hcz59_1 : wr.cell? ⟨gb690, 1, none⟩ = some (.slice A0_1 l0_1.length c0_1) := (blk_cell BK690.out 1).trans rfl
              have hcz59_2 : wr.cell? ⟨gb690, 2, none⟩ = some (.int .i64 a0_2) := (blk_cell BK690.out 2).trans rfl
              have hcz59_3 : wr.cell? ⟨gb690, 3, none⟩ = some (.slice (some ad699) l0_3.length c0_3) := (blk_cell BK690.out 3).trans rfl
              have hfz59_0 := blk_frozen BK690.out 0
              have hfz59_1 := blk_frozen BK690.out 1
              have hfz59_2 := blk_frozen BK690.out 2
              have hfz59_3 := blk_frozen BK690.out 3
              have p701 : 0 ≤ (x12_2 : Int) := of_decide_eq_true (by first | (with_reducible assumption) | assumption)
              have q701 : x12_2 < (l0_3.length : Int) := of_decide_eq_true (by first | (with_reducible assumption) | assumption)
              obtain ⟨ad701, A701_1, c701_1, e701, hx701_0, hx701_1, hl701_1, hi701_1⟩ := at_T62 HR0_3.out x12_2 p701 q701
              obtain rfl : ad699 = ad701 := (by injection e701)
              replace hx701_0 := (HB.out.cell (World.block_lt_of_cell? w _ hx701_0)).trans hx701_0
              replace hx701_1 := (HB.out.cell (World.block_lt_of_cell? w _ hx701_1)).trans hx701_1
              have HR701_1 := Aside0.mk hi701_1
              have HC701_1 := Aside0.mk hl701_1
              clear hi701_1 hl701_1
              replace p701 := eq_true p701
              replace q701 := eq_true q701
              have hnb60 := NB693_700.out
              have hnc60 := NB700_693.out
              have hcz61_0 : wr.cell? ⟨gb693, 0, none⟩ = some (u694000) := (blk_cell BK693.out 0).trans rfl
              have hcz61_1 : wr.cell? ⟨gb693, 1, none⟩ = some (.slice A0_1 l0_1.length c0_1) := (blk_cell BK693.out 1).trans rfl
              have hcz61_2 : wr.cell? ⟨gb693, 2, none⟩ = some (.int .i64 a0_2) := (blk_cell BK693.out 2).trans rfl
              have hcz61_3 : wr.cell? ⟨gb693, 3, none⟩ = some (u694003) := (blk_cell BK693.out 3).trans rfl
              have hfz61_0 := blk_frozen BK693.out 0
              have hfz61_1 := blk_frozen BK693.out 1
              have hfz61_2 := blk_frozen BK693.out 2
              have hfz61_3 := blk_frozen BK693.out 3
              have hcz62_0 : wr.cell? ⟨gb700, 0, none⟩ = some (.int .i64 ((rd_T62 l0_3 x12_2).f0)) := (blk_cell BK700.out 0).trans rfl
              have hcz62_1 : wr.cell? ⟨gb700, 1, none⟩ = some (u701001) := (blk_cell BK700.out 1).trans rfl
              have hfz62_0 := blk_frozen BK700.out 0
              have hfz62_1 := blk_frozen BK700.out 1
              obtain ⟨Ao64, co64, eo64⟩ := Kd.R_slice HO_701001.out
              subst eo64
              go_wp2_with (first | ((with_reducible refine gate_builtin (b := .append) (xs := #[.tmp 117, .tmp 119]) rfl ?_); (try (refine gate_guard (by rfl) ?_; dsimp only)); at_builtin; refine Kd.S_append k62 (w0 := w) w.heap.size rfl (.tmp 117) (.tmp 119) 24 62 (.agg #[(.int .i64 0), (.slice none 0 0)]) 32 rfl Try.underlying24 info62 rfl (by decide) (by omega) u694003 x694003_2 (⟨((rd_T62 l0_3 x12_2).f0), x701001_3⟩ : S62) [.int .i64 ((rd_T62 l0_3 x12_2).f0), .slice Ao64 x701001_3.length co64] (fun k_ => k_ ≠ gb700) (fun k_ => some k_ = (.slice Ao64 x701001_3.length co64 : Value).ownBlock) rfl rfl ?aP (fun k_ hk_ => ((Kd.R_mono (ok' := fun k_ => ((fun k_ => k_ ≠ gb700)) k_ ∧ some k_ ≠ (u694003 : Value).ownBlock) (Kd.R_types (Kd.R_apart' (HO_701001.out) (Kd.S_typed HO_694003.out) (by decide)) BK700.out (by decide)) (fun k_ hk => ⟨hk.2, hk.1.2⟩))).1 k_ hk_.symm) ?aF ?aO ?aB ?aS ?aL ?_; (case aP => exact k62_mkM _ _ _ (⟨((rd_T62 l0_3 x12_2).f0), x701001_3⟩ : S62) (Kd.R_mono (Kd.R_tight rfl (Kd.R_mono (ok' := fun k_ => ((fun k_ => k_ ≠ gb700)) k_ ∧ some k_ ≠ (u694003 : Value).ownBlock) (Kd.R_types (Kd.R_apart' (HO_701001.out) (Kd.S_typed HO_694003.out) (by decide)) BK700.out (by decide)) (fun k_ hk => ⟨hk.2, hk.1.2⟩))) (fun _ h_ => h_))); (case aB => exact (by repeat (first | (with_reducible first | exact HB.out | apply below_alloc | apply pw_below_drewN | apply below_drew1 | refine below_set ?_ GE690.out | refine below_set ?_ GE693.out | refine below_set ?_ GE700.out) | exact HB.out))); (case aF => exact (fun k_ hk => Kd.freshB (g := gb700) (o := .cells #[.int .i64 ((rd_T62 l0_3 x12_2).f0), .slice Ao64 x701001_3.length co64] 62 (0, 0)) (by (with_reducible repeat (first | refine blk_drewN ?_ _ | refine blk_drew ?_ | refine blk_alloc ?_ _)); exact BK700.out) k_ hk)); (case aO => exact (by (with_reducible repeat (first | apply Kd.S_alloc | apply Kd.S_drewN | apply Kd.S_drew)); exact Kd.S_mono HO_694003.out (fun k_ hk => ⟨hk.2, fun e_ => hk.1 e_⟩))); (case aS => exact (below_size (by repeat (first | (with_reducible first | exact HB.out | apply below_alloc | apply pw_below_drewN | apply below_drew1 | refine below_set ?_ GE690.out | refine below_set ?_ GE693.out | refine below_set ?_ GE700.out) | exact HB.out)))); (case aL => have := LMc56.out; omega); intro v711 w63 ho hb hg hat; rw [← Ny710.out] at ho; have n0_ := Aside0.mk (Kd.R_over' (by (with_reducible repeat (first | apply Kd.R_alloc | apply Kd.R_drewN | apply Kd.R_drew)); exact HO_694000.out) (Kd.S_typed (by (with_reducible repeat (first | apply Kd.S_alloc | apply Kd.S_drewN | apply Kd.S_drew)); exact HO_694003.out)) (by decide) hg); have n1_ := Aside0.mk (blk_grown (g := gb690) (o := .cells #[.slice A0_0 l0_0.length c0_0, .slice A0_1 l0_1.length c0_1, .int .i64 a0_2, .slice (some ad699) l0_3.length c0_3] 26 (0, 0)) (by (with_reducible repeat (first | refine blk_drewN ?_ _ | refine blk_drew ?_ | refine blk_alloc ?_ _)); exact BK690.out) hg (Kd.S_ne HO_694003.out BK690.out (by decide))); have n2_ := Aside0.mk (blk_grown (g := gb693) (o := .cells #[u694000, .slice A0_1 l0_1.length c0_1, .int .i64 a0_2, u694003] 26 (0, 0)) (by (with_reducible repeat (first | refine blk_drewN ?_ _ | refine blk_drew ?_ | refine blk_alloc ?_ _)); exact BK693.out) hg (Kd.S_ne HO_694003.out BK693.out (by decide))); have n3_ := Aside0.mk (blk_grown (g := gb700) (o := .cells #[.int .i64 ((rd_T62 l0_3 x12_2).f0), .slice Ao64 x701001_3.length co64] 62 (0, 0)) (by (with_reducible repeat (first | refine blk_drewN ?_ _ | refine blk_drew ?_ | refine blk_alloc ?_ _)); exact BK700.out) hg (Kd.S_away HO_694003.out (fun _ hk => hk.2))); have n4_ := Aside0.mk (hb); have n5_ := Aside0.mk (ho); clear HO_694000; clear BK690; clear BK693; clear BK700; clear HB; clear HO_694003; clear HO_701001; have HO_694000 := n0_; have BK690 := n1_; have BK693 := n2_; have BK700 := n3_; have HB := n4_; have HO712 := n5_; clear n0_ n1_ n2_ n3_ n4_ n5_; clear ho hb hg hat; obtain ⟨Ao65, co65, eo65⟩ := Kd.S_slice HO712.out; subst eo65; have hcz66_0 : w63.cell? ⟨gb693, 0, none⟩ = some (u694000) := (blk_cell BK693.out 0).trans rfl; have hcz66_1 : w63.cell? ⟨gb693, 1, none⟩ = some (.slice A0_1 l0_1.length c0_1) := (blk_cell BK693.out 1).trans rfl; have hcz66_2 : w63.cell? ⟨gb693, 2, none⟩ = some (.int .i64 a0_2) := (blk_cell BK693.out 2).trans rfl; have hcz66_3 : w63.cell? ⟨gb693, 3, none⟩ = some (u694003) := (blk_cell BK693.out 3).trans rfl; have hfz66_0 := blk_frozen BK693.out 0; have hfz66_1 := blk_frozen BK693.out 1; have hfz66_2 := blk_frozen BK693.out 2; have hfz66_3 := blk_frozen BK693.out 3))
              go_roundg k3
              case measure => have := HK1.out; have := HK2.out; have := HK3.out; omega
              case rel => exact ⟨(wrap64 (x12_2 + 1)), (y710), (.slice Ao65 y710.length co65), (by first | rfl | (simp; done) | (simp [*]; done)), H', ⟨by have := HK1.out; have := HK2.out; have := HK3.out; omega⟩, ⟨by (with_reducible repeat (first | apply Kd.R_alloc | apply Kd.R_drewN | apply Kd.R_drew)); exact Kd.R_mono (Kd.R_far (p := ⟨gb693, 3, none⟩) (Kd.R_types HO_694000.out BK693.out (by decide)) (fun _ hk => hk.2) (.slice Ao65 y710.length co65)) (fun _ hk => trivial)⟩, ⟨by (with_reducible repeat (first | apply Kd.S_alloc | apply Kd.S_drewN | apply Kd.S_drew)); exact Kd.S_mono (Kd.S_far (p := ⟨gb693, 3, none⟩) (Kd.S_types HO712.out BK693.out (by decide)) (fun _ hk => hk.2) (.slice Ao65 y710.length co65)) (fun _ hk => trivial)⟩, ⟨by (with_reducible repeat (first | refine blk_drewN ?_ _ | refine blk_drew ?_ | refine blk_alloc ?_ _)); refine blk_far ?_ NB690_693.out _; (with_reducible repeat (first | refine blk_drewN ?_ _ | refine blk_drew ?_ | refine blk_alloc ?_ _)); exact BK690.out⟩, ⟨by (with_reducible repeat (first | refine blk_drewN ?_ _ | refine blk_drew ?_ | refine blk_alloc ?_ _)); refine blk_put (cs := #[u694000, .slice A0_1 l0_1.length c0_1, .int .i64 a0_2, u694003]) ?_ 3 _ rfl; (with_reducible repeat (first | refine blk_drewN ?_ _ | refine blk_drew ?_ | refine blk_alloc ?_ _)); exact BK693.out⟩, ⟨by repeat (first | (with_reducible first | exact HB.out | apply below_alloc | apply pw_below_drewN | apply below_drew1 | refine below_set ?_ GE690.out | refine below_set ?_ GE693.out | refine below_set ?_ GE700.out) | exact HB.out)⟩⟩
             ·rw [if_neg c56] at H
              exact absurd H (by simp)
           ·rw [if_neg c34] at H
            exact absurd H (by simp)
          ·rw [if_neg c33] at H
           exact absurd H (by simp)
       ·rw [if_neg c26] at H
        exact absurd H (by simp)
      ·rw [if_neg c25] at H
       have c25b0 : decide (x12_2 < (l0_3.length : Int)) = false := decide_eq_false c25
       clear c25
       have e2 := Option.some.inj H
       injection e2 with e3 e4
       subst e3 e4
       clear H
       obtain ⟨Ax, cx, ex⟩ := Kd.R_slice HO_694000.out
       subst ex
       obtain ⟨Ay, cy, ey⟩ := Kd.S_slice HO_694003.out
       subst ey
       have q0 := Kd.R_reads' HO_694000.out
       have q3 := Kd.R_reads' (Kd.S_R HO_694003.out)
       have HX := Aside0.mk (show In26 wr (.agg #[.slice Ax x694000_1.length cx, .slice A0_1 l0_1.length c0_1, .int .i64 a0_2, .slice Ay x694003_2.length cy]) Ax cx x694000_1 A0_1 c0_1 l0_1 a0_2 Ay cy x694003_2 from ⟨rfl, q0.2.2, q0.2.1, Kd.C_below HR0_1.out HB.out, HC0_1.out, q3.2.2, q3.2.1, by have := HThX.out.a; omega, by have := HThX.out.b; omega, by have := HThX.out.c; omega, fun x hx => by have := HThX.out.d x hx; omega⟩)
       have B3 := BK690
       have BX := BK693
       clear q0 q3 HO_694000 HO_694003 BK690 BK693 HR0_0 HR0_1 HR0_3 HC0_0 HC0_1 HC0_3 A5
       obtain ⟨p0, p1, p2, p3⟩ := cells4 B3.out
       obtain ⟨x0, x1, x2, x3⟩ := cells4 BX.out
       have lt_B3 := blk_lt B3.out
       have lt_BX := blk_lt BX.out
       rw [HN.out]
       go_wp2_with (go_at_call 28; refine Aside0.out ?_)
       refine ⟨?_⟩
       refine (Fault_at (HX.out.below (by repeat (first | (with_reducible exact Below.refl _ _) | apply below_alloc | apply pw_below_drewN | apply below_drew1)))).mono ?_
       rintro e w2 ⟨rfl, hb⟩
       replace HB := Aside0.mk (below_step (by repeat (first | (with_reducible exact HB.out) | apply below_alloc | apply pw_below_drewN | apply below_drew1 | refine below_set ?_ (by omega))) hb)
       replace B3 := Aside0.mk (blk_below (g := gb690) (o := .cells #[.slice A0_0 l0_0.length c0_0, .slice A0_1 l0_1.length c0_1, .int .i64 a0_2, .slice A0_3 l0_3.length c0_3] 26 (0, 0)) (by (with_reducible repeat (first | exact B3.out | refine blk_drewN ?_ _ | refine blk_drew ?_ | refine blk_alloc ?_ _))) hb)
       replace BX := Aside0.mk (blk_below (g := gb693) (o := .cells #[.slice Ax x694000_1.length cx, .slice A0_1 l0_1.length c0_1, .int .i64 a0_2, .slice Ay x694003_2.length cy] 26 (0, 0)) (by (with_reducible repeat (first | exact BX.out | refine blk_drewN ?_ _ | refine blk_drew ?_ | refine blk_alloc ?_ _))) hb)
       replace HX := Aside0.mk (HX.out.below (below_step (by repeat (first | (with_reducible exact Below.refl _ _) | apply below_alloc | apply pw_below_drewN | apply below_drew1)) hb))
       clear hb
       (try clear p0 p1 p2 p3)
       (try clear lt_B3)
       have lt_B3 := blk_lt B3.out
       obtain ⟨p0, p1, p2, p3⟩ := cells4 B3.out
       (try clear x0 x1 x2 x3)
       (try clear lt_BX)
       have lt_BX := blk_lt BX.out
       obtain ⟨x0, x1, x2, x3⟩ := cells4 BX.out
       obtain ⟨ck, hck⟩ : ∃ c, checkRound (x694000_1.map m46) l0_1 a0_2 (x694003_2.map m75) = c := ⟨_, rfl⟩
       rw [hck]
       by_cases hz : ck = 0
       ·subst hz
        obtain ⟨off, a, sp, tp, g, hof, hol, he1, he2, hs1, hs2, hsl0, hsl1, hsl8, hin, hsh⟩ := HMM.out hck
        have HOf := Aside0.mk hof
        have HE1 := Aside0.mk he1
        have HE2 := Aside0.mk he2
        have HS1 := Aside0.mk hs1
        have HS2 := Aside0.mk hs2
        have HIn := Aside0.mk hin
        have HSh := Aside0.mk hsh
        clear hck hof he1 he2 hs1 hs2 hin hsh
        have haa : (a != a) = false := by simp
        have hgg : (g != g) = false := by simp
        have hll : ((sp.length : Int) != (tp.length : Int)) = false := bne_eq_false_iff_eq.2 (by omega)
        have hln : off.length < 17592186044416 := by omega
        go_wp2_with (first | (go_at_call 36; (with_reducible refine (chosen_at (HI.out.below (by repeat (first | (with_reducible exact HB.out) | apply below_alloc | apply pw_below_drewN | apply below_drew1 | refine below_set ?_ (by omega)))) H6.out a1).mono ?_); (rw [HOf.out]); rintro e w3 ⟨_, rfl, ⟨Ao, co, rfl, hco, hOff⟩, hb⟩; replace HB := Aside0.mk (below_step (by repeat (first | (with_reducible exact HB.out) | apply below_alloc | apply pw_below_drewN | apply below_drew1 | refine below_set ?_ (by omega))) hb); replace B3 := Aside0.mk (blk_below (g := gb690) (o := .cells #[.slice A0_0 l0_0.length c0_0, .slice A0_1 l0_1.length c0_1, .int .i64 a0_2, .slice A0_3 l0_3.length c0_3] 26 (0, 0)) (by (with_reducible repeat (first | exact B3.out | refine blk_drewN ?_ _ | refine blk_drew ?_ | refine blk_alloc ?_ _))) hb); replace BX := Aside0.mk (blk_below (g := gb693) (o := .cells #[.slice Ax x694000_1.length cx, .slice A0_1 l0_1.length c0_1, .int .i64 a0_2, .slice Ay x694003_2.length cy] 26 (0, 0)) (by (with_reducible repeat (first | exact BX.out | refine blk_drewN ?_ _ | refine blk_drew ?_ | refine blk_alloc ?_ _))) hb); replace HX := Aside0.mk (HX.out.below (below_step (by repeat (first | (with_reducible exact Below.refl _ _) | apply below_alloc | apply pw_below_drewN | apply below_drew1)) hb)); (try replace HOff := Aside0.mk (Kd.C_below HOff.out (below_step (by repeat (first | (with_reducible exact Below.refl _ _) | apply below_alloc | apply pw_below_drewN | apply below_drew1)) hb))); (try replace HSp := Aside0.mk (Kd.C_below HSp.out (below_step (by repeat (first | (with_reducible exact Below.refl _ _) | apply below_alloc | apply pw_below_drewN | apply below_drew1)) hb))); (try replace HTp := Aside0.mk (Kd.C_below HTp.out (below_step (by repeat (first | (with_reducible exact Below.refl _ _) | apply below_alloc | apply pw_below_drewN | apply below_drew1)) hb))); (try replace HU := Aside0.mk (HU.out.below (below_step (by repeat (first | (with_reducible exact Below.refl _ _) | apply below_alloc | apply pw_below_drewN | apply below_drew1)) hb))); (try replace HL := Aside0.mk (HL.out.below (below_step (by repeat (first | (with_reducible exact Below.refl _ _) | apply below_alloc | apply pw_below_drewN | apply below_drew1)) hb))); clear hb; have HOff := Aside0.mk hOff; clear hOff; (try clear p0 p1 p2 p3); (try clear lt_B3); have lt_B3 := blk_lt B3.out; obtain ⟨p0, p1, p2, p3⟩ := cells4 B3.out; (try clear x0 x1 x2 x3); (try clear lt_BX); have lt_BX := blk_lt BX.out; obtain ⟨x0, x1, x2, x3⟩ := cells4 BX.out) | (go_at_call 20; (with_reducible refine (round_at (HI.out.below (by repeat (first | (with_reducible exact HB.out) | apply below_alloc | apply pw_below_drewN | apply below_drew1 | refine below_set ?_ (by omega)))) HTh.out).mono ?_); rintro e w4 ⟨u, rfl, hu, hb⟩; replace HB := Aside0.mk (below_step (by repeat (first | (with_reducible exact HB.out) | apply below_alloc | apply pw_below_drewN | apply below_drew1 | refine below_set ?_ (by omega))) hb); replace B3 := Aside0.mk (blk_below (g := gb690) (o := .cells #[.slice A0_0 l0_0.length c0_0, .slice A0_1 l0_1.length c0_1, .int .i64 a0_2, .slice A0_3 l0_3.length c0_3] 26 (0, 0)) (by (with_reducible repeat (first | exact B3.out | refine blk_drewN ?_ _ | refine blk_drew ?_ | refine blk_alloc ?_ _))) hb); replace BX := Aside0.mk (blk_below (g := gb693) (o := .cells #[.slice Ax x694000_1.length cx, .slice A0_1 l0_1.length c0_1, .int .i64 a0_2, .slice Ay x694003_2.length cy] 26 (0, 0)) (by (with_reducible repeat (first | exact BX.out | refine blk_drewN ?_ _ | refine blk_drew ?_ | refine blk_alloc ?_ _))) hb); replace HX := Aside0.mk (HX.out.below (below_step (by repeat (first | (with_reducible exact Below.refl _ _) | apply below_alloc | apply pw_below_drewN | apply below_drew1)) hb)); (try replace HOff := Aside0.mk (Kd.C_below HOff.out (below_step (by repeat (first | (with_reducible exact Below.refl _ _) | apply below_alloc | apply pw_below_drewN | apply below_drew1)) hb))); (try replace HSp := Aside0.mk (Kd.C_below HSp.out (below_step (by repeat (first | (with_reducible exact Below.refl _ _) | apply below_alloc | apply pw_below_drewN | apply below_drew1)) hb))); (try replace HTp := Aside0.mk (Kd.C_below HTp.out (below_step (by repeat (first | (with_reducible exact Below.refl _ _) | apply below_alloc | apply pw_below_drewN | apply below_drew1)) hb))); (try replace HU := Aside0.mk (HU.out.below (below_step (by repeat (first | (with_reducible exact Below.refl _ _) | apply below_alloc | apply pw_below_drewN | apply below_drew1)) hb))); (try replace HL := Aside0.mk (HL.out.below (below_step (by repeat (first | (with_reducible exact Below.refl _ _) | apply below_alloc | apply pw_below_drewN | apply below_drew1)) hb))); clear hb; have HU := Aside0.mk hu; clear hu; (try clear p0 p1 p2 p3); (try clear lt_B3); have lt_B3 := blk_lt B3.out; obtain ⟨p0, p1, p2, p3⟩ := cells4 B3.out; (try clear x0 x1 x2 x3); (try clear lt_BX); have lt_BX := blk_lt BX.out; obtain ⟨x0, x1, x2, x3⟩ := cells4 BX.out) | (go_at_call 20; (with_reducible refine (round_at (HX.out.below (by repeat (first | (with_reducible exact Below.refl _ _) | apply below_alloc | apply pw_below_drewN | apply below_drew1))) HThX.out).mono ?_); rintro e w4 ⟨u, rfl, hu, hb⟩; replace HB := Aside0.mk (below_step (by repeat (first | (with_reducible exact HB.out) | apply below_alloc | apply pw_below_drewN | apply below_drew1 | refine below_set ?_ (by omega))) hb); replace B3 := Aside0.mk (blk_below (g := gb690) (o := .cells #[.slice A0_0 l0_0.length c0_0, .slice A0_1 l0_1.length c0_1, .int .i64 a0_2, .slice A0_3 l0_3.length c0_3] 26 (0, 0)) (by (with_reducible repeat (first | exact B3.out | refine blk_drewN ?_ _ | refine blk_drew ?_ | refine blk_alloc ?_ _))) hb); replace BX := Aside0.mk (blk_below (g := gb693) (o := .cells #[.slice Ax x694000_1.length cx, .slice A0_1 l0_1.length c0_1, .int .i64 a0_2, .slice Ay x694003_2.length cy] 26 (0, 0)) (by (with_reducible repeat (first | exact BX.out | refine blk_drewN ?_ _ | refine blk_drew ?_ | refine blk_alloc ?_ _))) hb); replace HX := Aside0.mk (HX.out.below (below_step (by repeat (first | (with_reducible exact Below.refl _ _) | apply below_alloc | apply pw_below_drewN | apply below_drew1)) hb)); (try replace HOff := Aside0.mk (Kd.C_below HOff.out (below_step (by repeat (first | (with_reducible exact Below.refl _ _) | apply below_alloc | apply pw_below_drewN | apply below_drew1)) hb))); (try replace HSp := Aside0.mk (Kd.C_below HSp.out (below_step (by repeat (first | (with_reducible exact Below.refl _ _) | apply below_alloc | apply pw_below_drewN | apply below_drew1)) hb))); (try replace HTp := Aside0.mk (Kd.C_below HTp.out (below_step (by repeat (first | (with_reducible exact Below.refl _ _) | apply below_alloc | apply pw_below_drewN | apply below_drew1)) hb))); (try replace HU := Aside0.mk (HU.out.below (below_step (by repeat (first | (with_reducible exact Below.refl _ _) | apply below_alloc | apply pw_below_drewN | apply below_drew1)) hb))); (try replace HL := Aside0.mk (HL.out.below (below_step (by repeat (first | (with_reducible exact Below.refl _ _) | apply below_alloc | apply pw_below_drewN | apply below_drew1)) hb))); clear hb; have HU := Aside0.mk hu; clear hu; (try clear p0 p1 p2 p3); (try clear lt_B3); have lt_B3 := blk_lt B3.out; obtain ⟨p0, p1, p2, p3⟩ := cells4 B3.out; (try clear x0 x1 x2 x3); (try clear lt_BX); have lt_BX := blk_lt BX.out; obtain ⟨x0, x1, x2, x3⟩ := cells4 BX.out) | (go_at_call 22; (with_reducible refine (list_at (inL_mk2 hco (Kd.C_below HOff.out (by repeat (first | (with_reducible exact Below.refl _ _) | apply below_alloc | apply pw_below_drewN | apply below_drew1)))) hln).mono ?_); rintro e w5 ⟨y, rfl, hy, hb⟩; replace HB := Aside0.mk (below_step (by repeat (first | (with_reducible exact HB.out) | apply below_alloc | apply pw_below_drewN | apply below_drew1 | refine below_set ?_ (by omega))) hb); replace B3 := Aside0.mk (blk_below (g := gb690) (o := .cells #[.slice A0_0 l0_0.length c0_0, .slice A0_1 l0_1.length c0_1, .int .i64 a0_2, .slice A0_3 l0_3.length c0_3] 26 (0, 0)) (by (with_reducible repeat (first | exact B3.out | refine blk_drewN ?_ _ | refine blk_drew ?_ | refine blk_alloc ?_ _))) hb); replace BX := Aside0.mk (blk_below (g := gb693) (o := .cells #[.slice Ax x694000_1.length cx, .slice A0_1 l0_1.length c0_1, .int .i64 a0_2, .slice Ay x694003_2.length cy] 26 (0, 0)) (by (with_reducible repeat (first | exact BX.out | refine blk_drewN ?_ _ | refine blk_drew ?_ | refine blk_alloc ?_ _))) hb); replace HX := Aside0.mk (HX.out.below (below_step (by repeat (first | (with_reducible exact Below.refl _ _) | apply below_alloc | apply pw_below_drewN | apply below_drew1)) hb)); (try replace HOff := Aside0.mk (Kd.C_below HOff.out (below_step (by repeat (first | (with_reducible exact Below.refl _ _) | apply below_alloc | apply pw_below_drewN | apply below_drew1)) hb))); (try replace HSp := Aside0.mk (Kd.C_below HSp.out (below_step (by repeat (first | (with_reducible exact Below.refl _ _) | apply below_alloc | apply pw_below_drewN | apply below_drew1)) hb))); (try replace HTp := Aside0.mk (Kd.C_below HTp.out (below_step (by repeat (first | (with_reducible exact Below.refl _ _) | apply below_alloc | apply pw_below_drewN | apply below_drew1)) hb))); (try replace HU := Aside0.mk (HU.out.below (below_step (by repeat (first | (with_reducible exact Below.refl _ _) | apply below_alloc | apply pw_below_drewN | apply below_drew1)) hb))); (try replace HL := Aside0.mk (HL.out.below (below_step (by repeat (first | (with_reducible exact Below.refl _ _) | apply below_alloc | apply pw_below_drewN | apply below_drew1)) hb))); clear hb; have HL := Aside0.mk hy; clear hy; (try clear p0 p1 p2 p3); (try clear lt_B3); have lt_B3 := blk_lt B3.out; obtain ⟨p0, p1, p2, p3⟩ := cells4 B3.out; (try clear x0 x1 x2 x3); (try clear lt_BX); have lt_BX := blk_lt BX.out; obtain ⟨x0, x1, x2, x3⟩ := cells4 BX.out) | (go_at_call 21; (with_reducible refine (explains_at (HU.out.below (by repeat (first | (with_reducible exact Below.refl _ _) | apply below_alloc | apply pw_below_drewN | apply below_drew1))) (HL.out.below (by repeat (first | (with_reducible exact Below.refl _ _) | apply below_alloc | apply pw_below_drewN | apply below_drew1))) hln).mono ?_); (first | rw [HE1.out] | rw [HE2.out]); rintro e w7 ⟨rfl, hb⟩; clear HU HL; replace HB := Aside0.mk (below_step (by repeat (first | (with_reducible exact HB.out) | apply below_alloc | apply pw_below_drewN | apply below_drew1 | refine below_set ?_ (by omega))) hb); replace B3 := Aside0.mk (blk_below (g := gb690) (o := .cells #[.slice A0_0 l0_0.length c0_0, .slice A0_1 l0_1.length c0_1, .int .i64 a0_2, .slice A0_3 l0_3.length c0_3] 26 (0, 0)) (by (with_reducible repeat (first | exact B3.out | refine blk_drewN ?_ _ | refine blk_drew ?_ | refine blk_alloc ?_ _))) hb); replace BX := Aside0.mk (blk_below (g := gb693) (o := .cells #[.slice Ax x694000_1.length cx, .slice A0_1 l0_1.length c0_1, .int .i64 a0_2, .slice Ay x694003_2.length cy] 26 (0, 0)) (by (with_reducible repeat (first | exact BX.out | refine blk_drewN ?_ _ | refine blk_drew ?_ | refine blk_alloc ?_ _))) hb); replace HX := Aside0.mk (HX.out.below (below_step (by repeat (first | (with_reducible exact Below.refl _ _) | apply below_alloc | apply pw_below_drewN | apply below_drew1)) hb)); (try replace HOff := Aside0.mk (Kd.C_below HOff.out (below_step (by repeat (first | (with_reducible exact Below.refl _ _) | apply below_alloc | apply pw_below_drewN | apply below_drew1)) hb))); (try replace HSp := Aside0.mk (Kd.C_below HSp.out (below_step (by repeat (first | (with_reducible exact Below.refl _ _) | apply below_alloc | apply pw_below_drewN | apply below_drew1)) hb))); (try replace HTp := Aside0.mk (Kd.C_below HTp.out (below_step (by repeat (first | (with_reducible exact Below.refl _ _) | apply below_alloc | apply pw_below_drewN | apply below_drew1)) hb))); clear hb; (try clear p0 p1 p2 p3); (try clear lt_B3); have lt_B3 := blk_lt B3.out; obtain ⟨p0, p1, p2, p3⟩ := cells4 B3.out; (try clear x0 x1 x2 x3); (try clear lt_BX); have lt_BX := blk_lt BX.out; obtain ⟨x0, x1, x2, x3⟩ := cells4 BX.out) | (go_at_call 26; (with_reducible refine (spans_at (HU.out.below (by repeat (first | (with_reducible exact Below.refl _ _) | apply below_alloc | apply pw_below_drewN | apply below_drew1))) (HL.out.below (by repeat (first | (with_reducible exact Below.refl _ _) | apply below_alloc | apply pw_below_drewN | apply below_drew1))) hln).mono ?_); first | (rw [HS1.out]; rintro e w8 ⟨_, rfl, ⟨As, cs, rfl, hcs, hSp⟩, hb⟩; clear HU HL; replace HB := Aside0.mk (below_step (by repeat (first | (with_reducible exact HB.out) | apply below_alloc | apply pw_below_drewN | apply below_drew1 | refine below_set ?_ (by omega))) hb); replace B3 := Aside0.mk (blk_below (g := gb690) (o := .cells #[.slice A0_0 l0_0.length c0_0, .slice A0_1 l0_1.length c0_1, .int .i64 a0_2, .slice A0_3 l0_3.length c0_3] 26 (0, 0)) (by (with_reducible repeat (first | exact B3.out | refine blk_drewN ?_ _ | refine blk_drew ?_ | refine blk_alloc ?_ _))) hb); replace BX := Aside0.mk (blk_below (g := gb693) (o := .cells #[.slice Ax x694000_1.length cx, .slice A0_1 l0_1.length c0_1, .int .i64 a0_2, .slice Ay x694003_2.length cy] 26 (0, 0)) (by (with_reducible repeat (first | exact BX.out | refine blk_drewN ?_ _ | refine blk_drew ?_ | refine blk_alloc ?_ _))) hb); replace HX := Aside0.mk (HX.out.below (below_step (by repeat (first | (with_reducible exact Below.refl _ _) | apply below_alloc | apply pw_below_drewN | apply below_drew1)) hb)); (try replace HOff := Aside0.mk (Kd.C_below HOff.out (below_step (by repeat (first | (with_reducible exact Below.refl _ _) | apply below_alloc | apply pw_below_drewN | apply below_drew1)) hb))); (try replace HSp := Aside0.mk (Kd.C_below HSp.out (below_step (by repeat (first | (with_reducible exact Below.refl _ _) | apply below_alloc | apply pw_below_drewN | apply below_drew1)) hb))); (try replace HTp := Aside0.mk (Kd.C_below HTp.out (below_step (by repeat (first | (with_reducible exact Below.refl _ _) | apply below_alloc | apply pw_below_drewN | apply below_drew1)) hb))); clear hb; have HSp := Aside0.mk hSp; clear hSp; (try clear p0 p1 p2 p3); (try clear lt_B3); have lt_B3 := blk_lt B3.out; obtain ⟨p0, p1, p2, p3⟩ := cells4 B3.out; (try clear x0 x1 x2 x3); (try clear lt_BX); have lt_BX := blk_lt BX.out; obtain ⟨x0, x1, x2, x3⟩ := cells4 BX.out) | (rw [HS2.out]; rintro e w9 ⟨_, rfl, ⟨At, ct, rfl, hct, hTp⟩, hb⟩; clear HU HL; replace HB := Aside0.mk (below_step (by repeat (first | (with_reducible exact HB.out) | apply below_alloc | apply pw_below_drewN | apply below_drew1 | refine below_set ?_ (by omega))) hb); replace B3 := Aside0.mk (blk_below (g := gb690) (o := .cells #[.slice A0_0 l0_0.length c0_0, .slice A0_1 l0_1.length c0_1, .int .i64 a0_2, .slice A0_3 l0_3.length c0_3] 26 (0, 0)) (by (with_reducible repeat (first | exact B3.out | refine blk_drewN ?_ _ | refine blk_drew ?_ | refine blk_alloc ?_ _))) hb); replace BX := Aside0.mk (blk_below (g := gb693) (o := .cells #[.slice Ax x694000_1.length cx, .slice A0_1 l0_1.length c0_1, .int .i64 a0_2, .slice Ay x694003_2.length cy] 26 (0, 0)) (by (with_reducible repeat (first | exact BX.out | refine blk_drewN ?_ _ | refine blk_drew ?_ | refine blk_alloc ?_ _))) hb); replace HX := Aside0.mk (HX.out.below (below_step (by repeat (first | (with_reducible exact Below.refl _ _) | apply below_alloc | apply pw_below_drewN | apply below_drew1)) hb)); (try replace HOff := Aside0.mk (Kd.C_below HOff.out (below_step (by repeat (first | (with_reducible exact Below.refl _ _) | apply below_alloc | apply pw_below_drewN | apply below_drew1)) hb))); (try replace HSp := Aside0.mk (Kd.C_below HSp.out (below_step (by repeat (first | (with_reducible exact Below.refl _ _) | apply below_alloc | apply pw_below_drewN | apply below_drew1)) hb))); (try replace HTp := Aside0.mk (Kd.C_below HTp.out (below_step (by repeat (first | (with_reducible exact Below.refl _ _) | apply below_alloc | apply pw_below_drewN | apply below_drew1)) hb))); clear hb; have HTp := Aside0.mk hTp; clear hTp; (try clear p0 p1 p2 p3); (try clear lt_B3); have lt_B3 := blk_lt B3.out; obtain ⟨p0, p1, p2, p3⟩ := cells4 B3.out; (try clear x0 x1 x2 x3); (try clear lt_BX); have lt_BX := blk_lt BX.out; obtain ⟨x0, x1, x2, x3⟩ := cells4 BX.out)))
        clear p0 p1 p2 p3 x0 x1 x2 x3 lt_B3 lt_BX HE1 HE2 HS1 HS2 HOff HOf hgg haa hll
        go_loopw [25] (fun q wr => ∃ i : Int, 0 ≤ i ∧ i ≤ sp.length ∧ q = .int .i64 i ∧ Aside0 (Below w9.heap.size w9 wr)) (fun q _ => sp.length - (intOf q).toNat)
        case atStart => exact ⟨0, by omega, by omega, rfl, ⟨Below.refl _ _⟩⟩
        case round =>
         obtain ⟨i, i0, i1, rfl, HBr⟩ := hrel
         by_cases hlt : i < (sp.length : Int)
         ·have HBd := below_drew1 HBr.out
          obtain ⟨adS, hAS, hx0, hx1⟩ := at_T46 (Kd.C_below HSp.out HBd) i i0 hlt
          subst hAS
          obtain ⟨adT, hAT, hx2, hx3⟩ := at_T46 (Kd.C_below HTp.out HBd) i i0 (show i < (tp.length : Int) by omega)
          subst hAT
          clear HBd
          obtain ⟨g0, g1, g2, g3⟩ := HIn.out i i0 hlt
          rw [g0] at hx2
          rw [g1] at hx3
          clear g0 g1
          have c0 : ((rd_T46 sp i).f0 + n != (rd_T46 sp i).f0 + n) = false := by simp
          have c1 : ((rd_T46 sp i).f1 + n != (rd_T46 sp i).f1 + n) = false := by simp
          have p0 : (0 ≤ i) = True := eq_true i0
          have p1 : (i < (tp.length : Int)) = True := eq_true (by omega)
          have p2 : (i < (sp.length : Int)) = True := eq_true (by omega)
          go_wp2
          refine start_ (n := 28) (S := fun w' => w'.cell? (adS.add (i.toNat * 2)) = some (.int .i64 ((rd_T46 sp i).f0)) ∧ w'.cell? ⟨(adS.add (i.toNat * 2)).block, (adS.add (i.toNat * 2)).off + 1, none⟩ = some (.int .i64 ((rd_T46 sp i).f1)) ∧ w'.cell? (adT.add (i.toNat * 2)) = some (.int .i64 ((rd_T46 sp i).f0 + n)) ∧ w'.cell? ⟨(adT.add (i.toNat * 2)).block, (adT.add (i.toNat * 2)).off + 1, none⟩ = some (.int .i64 ((rd_T46 sp i).f1 + n))) (ds := []) #[false, false, false, false, false, false, false, false, false, false, false, false, false, false, false, false, false, false, false, false, false, false, false, false, false, false, false, false] (by kernel_rfl) rfl rfl ⟨hx0, hx1, hx2, hx3⟩ (fun hHeld => ?_)
          refine with_tabW mv.tab33 mv.bits33 (fun HT_ HW_ => ?_)
          replace HBr := Aside0.mk (below_drew1 HBr.out)
          generalize wr.drew = ws at HBr hx0 hx1 hx2 hx3 hHeld ⊢
          refine pure_ (i := 0) (N := some 190) (v := ?_) (a' := ?_) #[true, false, false, false, false, false, false, false, false, false, false, false, false, false, false, false, false, false, false, false, false, false, false, false, false, false, false, false] rfl rfl (any_of HT_.out (by kernel_rfl)) (fun _ _ _ h => h) (Or.inl ⟨by rfl, ?_⟩) ?_ ?_
          rotate_left
          ·intro w'
           go_simp
           with_reducible rfl
          rotate_left
          ·simp only [Act.put, List.setIfInBounds_toArray, List.set_cons_zero, List.set_cons_succ, i64_w, i32_w]
           rfl
          refine pure_ (i := 1) (N := some 191) (v := ?_) (a' := ?_) #[true, true, false, false, false, false, false, false, false, false, false, false, false, false, false, false, false, false, false, false, false, false, false, false, false, false, false, false] rfl rfl (any_of HT_.out (by kernel_rfl)) (fun _ _ _ h => h) (Or.inl ⟨by rfl, ?_⟩) ?_ ?_
          rotate_left
          ·intro w'
           go_simp
           with_reducible rfl
          rotate_left
          ·simp only [Act.put, List.setIfInBounds_toArray, List.set_cons_zero, List.set_cons_succ, i64_w, i32_w]
           rfl
          refine pure_ (i := 2) (N := some 192) (v := ?_) (a' := ?_) #[true, true, true, false, false, false, false, false, false, false, false, false, false, false, false, false, false, false, false, false, false, false, false, false, false, false, false, false] rfl rfl (any_of HT_.out (by kernel_rfl)) (fun _ _ _ h => h) (Or.inl ⟨by rfl, ?_⟩) ?_ ?_
          rotate_left
          ·intro w'
           go_simp
           with_reducible rfl
          rotate_left
          ·simp only [Act.put, List.setIfInBounds_toArray, List.set_cons_zero, List.set_cons_succ, i64_w, i32_w]
           rfl
          refine pure_ (i := 3) (N := some 193) (v := ?_) (a' := ?_) #[true, true, true, true, false, false, false, false, false, false, false, false, false, false, false, false, false, false, false, false, false, false, false, false, false, false, false, false] rfl rfl (any_of HT_.out (by kernel_rfl)) (fun _ _ _ h => h) (Or.inl ⟨by rfl, ?_⟩) ?_ ?_
          rotate_left
          ·intro w'
           go_simp
           with_reducible rfl
          rotate_left
          ·simp only [Act.put, List.setIfInBounds_toArray, List.set_cons_zero, List.set_cons_succ, i64_w, i32_w]
           rfl
          refine pure_ (i := 5) (N := some 195) (v := ?_) (a' := ?_) #[true, true, true, true, false, true, false, false, false, false, false, false, false, false, false, false, false, false, false, false, false, false, false, false, false, false, false, false] rfl rfl (any_of HT_.out (by kernel_rfl)) (fun _ _ _ h => h) (Or.inl ⟨by rfl, ?_⟩) ?_ ?_
          rotate_left
          ·intro w'
           go_simp
           with_reducible rfl
          rotate_left
          ·simp only [Act.put, List.setIfInBounds_toArray, List.set_cons_zero, List.set_cons_succ, i64_w, i32_w]
           rfl
          refine pure_ (i := 6) (N := some 196) (v := ?_) (a' := ?_) #[true, true, true, true, false, true, true, false, false, false, false, false, false, false, false, false, false, false, false, false, false, false, false, false, false, false, false, false] rfl rfl (any_of HT_.out (by kernel_rfl)) (fun _ _ _ h => h) (Or.inl ⟨by rfl, ?_⟩) ?_ ?_
          rotate_left
          ·intro w'
           go_simp
           with_reducible rfl
          rotate_left
          ·simp only [Act.put, List.setIfInBounds_toArray, List.set_cons_zero, List.set_cons_succ, i64_w, i32_w]
           rfl
          refine pure_ (i := 7) (N := some 197) (v := ?_) (a' := ?_) #[true, true, true, true, false, true, true, true, false, false, false, false, false, false, false, false, false, false, false, false, false, false, false, false, false, false, false, false] rfl rfl (any_of HT_.out (by kernel_rfl)) (fun _ _ _ h => h) (Or.inl ⟨by rfl, ?_⟩) ?_ ?_
          rotate_left
          ·intro w'
           go_simp
           with_reducible rfl
          rotate_left
          ·simp only [Act.put, List.setIfInBounds_toArray, List.set_cons_zero, List.set_cons_succ, i64_w, i32_w]
           rfl
          refine pure_ (i := 8) (N := some 198) (v := ?_) (a' := ?_) #[true, true, true, true, false, true, true, true, true, false, false, false, false, false, false, false, false, false, false, false, false, false, false, false, false, false, false, false] rfl rfl (any_of HT_.out (by kernel_rfl)) (fun _ _ _ h => h) (Or.inl ⟨by rfl, ?_⟩) ?_ ?_
          rotate_left
          ·intro w'
           go_simp
           with_reducible rfl
          rotate_left
          ·simp only [Act.put, List.setIfInBounds_toArray, List.set_cons_zero, List.set_cons_succ, i64_w, i32_w]
           rfl
          refine pure_ (i := 10) (N := some 200) (v := ?_) (a' := ?_) #[true, true, true, true, false, true, true, true, true, false, true, false, false, false, false, false, false, false, false, false, false, false, false, false, false, false, false, false] rfl rfl (any_of HT_.out (by kernel_rfl)) (fun _ _ _ h => h) (Or.inl ⟨by rfl, ?_⟩) ?_ ?_
          rotate_left
          ·intro w'
           go_simp
           with_reducible rfl
          rotate_left
          ·simp only [Act.put, List.setIfInBounds_toArray, List.set_cons_zero, List.set_cons_succ, i64_w, i32_w]
           rfl
          refine take_ (i := 4) (N := some 194) (v := ?_) (a' := ?_) #[true, true, true, true, true, true, true, true, true, false, true, false, false, false, false, false, false, false, false, false, false, false, false, false, false, false, false, false] rfl rfl (take_ofW HT_.out HW_.out (by kernel_rfl)) (fun _ _ _ h => h) (Or.inl ⟨by rfl, ?_⟩) hHeld ?_ ?_
          rotate_left
          ·rintro w' ⟨s0, s1, s2, s3⟩
           go_simp
           with_reducible rfl
          rotate_left
          ·simp only [Act.put, List.setIfInBounds_toArray, List.set_cons_zero, List.set_cons_succ, i64_w, i32_w]
           rfl
          refine take_ (i := 9) (N := some 199) (v := ?_) (a' := ?_) #[true, true, true, true, true, true, true, true, true, true, true, false, false, false, false, false, false, false, false, false, false, false, false, false, false, false, false, false] rfl rfl (take_ofW HT_.out HW_.out (by kernel_rfl)) (fun _ _ _ h => h) (Or.inl ⟨by rfl, ?_⟩) hHeld ?_ ?_
          rotate_left
          ·rintro w' ⟨s0, s1, s2, s3⟩
           go_simp
           with_reducible rfl
          rotate_left
          ·simp only [Act.put, List.setIfInBounds_toArray, List.set_cons_zero, List.set_cons_succ, i64_w, i32_w]
           rfl
          refine pure_ (i := 11) (N := some 201) (v := ?_) (a' := ?_) #[true, true, true, true, true, true, true, true, true, true, true, true, false, false, false, false, false, false, false, false, false, false, false, false, false, false, false, false] rfl rfl (any_of HT_.out (by kernel_rfl)) (fun _ _ _ h => h) (Or.inl ⟨by rfl, ?_⟩) ?_ ?_
          rotate_left
          ·intro w'
           go_simp
           with_reducible rfl
          rotate_left
          ·simp only [Act.put, List.setIfInBounds_toArray, List.set_cons_zero, List.set_cons_succ, i64_w, i32_w]
           rfl
          refine pure_ (i := 12) (N := some 202) (v := ?_) (a' := ?_) #[true, true, true, true, true, true, true, true, true, true, true, true, true, false, false, false, false, false, false, false, false, false, false, false, false, false, false, false] rfl rfl (any_of HT_.out (by kernel_rfl)) (fun _ _ _ h => h) (Or.inl ⟨by rfl, ?_⟩) ?_ ?_
          rotate_left
          ·intro w'
           go_simp
           with_reducible rfl
          rotate_left
          ·simp only [Act.put, List.setIfInBounds_toArray, List.set_cons_zero, List.set_cons_succ, i64_w, i32_w]
           rfl
          refine pure_ (i := 13) (N := some 203) (v := ?_) (a' := ?_) #[true, true, true, true, true, true, true, true, true, true, true, true, true, true, false, false, false, false, false, false, false, false, false, false, false, false, false, false] rfl rfl (any_of HT_.out (by kernel_rfl)) (fun _ _ _ h => h) (Or.inl ⟨by rfl, ?_⟩) ?_ ?_
          rotate_left
          ·intro w'
           go_simp
           with_reducible rfl
          rotate_left
          ·simp only [Act.put, List.setIfInBounds_toArray, List.set_cons_zero, List.set_cons_succ, i64_w, i32_w]
           rfl
          refine pure_ (i := 14) (N := some 204) (v := ?_) (a' := ?_) #[true, true, true, true, true, true, true, true, true, true, true, true, true, true, true, false, false, false, false, false, false, false, false, false, false, false, false, false] rfl rfl (any_of HT_.out (by kernel_rfl)) (fun _ _ _ h => h) (Or.inl ⟨by rfl, ?_⟩) ?_ ?_
          rotate_left
          ·intro w'
           go_simp
           with_reducible rfl
          rotate_left
          ·simp only [Act.put, List.setIfInBounds_toArray, List.set_cons_zero, List.set_cons_succ, i64_w, i32_w]
           rfl
          refine pure_ (i := 15) (N := some 205) (v := ?_) (a' := ?_) #[true, true, true, true, true, true, true, true, true, true, true, true, true, true, true, true, false, false, false, false, false, false, false, false, false, false, false, false] rfl rfl (any_of HT_.out (by kernel_rfl)) (fun _ _ _ h => h) (Or.inl ⟨by rfl, ?_⟩) ?_ ?_
          rotate_left
          ·intro w'
           go_simp
           with_reducible rfl
          rotate_left
          ·simp only [Act.put, List.setIfInBounds_toArray, List.set_cons_zero, List.set_cons_succ, i64_w, i32_w]
           rfl
          refine pure_ (i := 16) (N := some 206) (v := ?_) (a' := ?_) #[true, true, true, true, true, true, true, true, true, true, true, true, true, true, true, true, true, false, false, false, false, false, false, false, false, false, false, false] rfl rfl (any_of HT_.out (by kernel_rfl)) (fun _ _ _ h => h) (Or.inl ⟨by rfl, ?_⟩) ?_ ?_
          rotate_left
          ·intro w'
           go_simp
           with_reducible rfl
          rotate_left
          ·simp only [Act.put, List.setIfInBounds_toArray, List.set_cons_zero, List.set_cons_succ, i64_w, i32_w]
           rfl
          refine pure_ (i := 17) (N := some 207) (v := ?_) (a' := ?_) #[true, true, true, true, true, true, true, true, true, true, true, true, true, true, true, true, true, true, false, false, false, false, false, false, false, false, false, false] rfl rfl (any_of HT_.out (by kernel_rfl)) (fun _ _ _ h => h) (Or.inl ⟨by rfl, ?_⟩) ?_ ?_
          rotate_left
          ·intro w'
           go_simp
           with_reducible rfl
          rotate_left
          ·simp only [Act.put, List.setIfInBounds_toArray, List.set_cons_zero, List.set_cons_succ, i64_w, i32_w]
           rfl
          refine pure_ (i := 19) (N := some 209) (v := ?_) (a' := ?_) #[true, true, true, true, true, true, true, true, true, true, true, true, true, true, true, true, true, true, false, true, false, false, false, false, false, false, false, false] rfl rfl (any_of HT_.out (by kernel_rfl)) (fun _ _ _ h => h) (Or.inl ⟨by rfl, ?_⟩) ?_ ?_
          rotate_left
          ·intro w'
           go_simp
           with_reducible rfl
          rotate_left
          ·simp only [Act.put, List.setIfInBounds_toArray, List.set_cons_zero, List.set_cons_succ, i64_w, i32_w]
           rfl
          refine pure_ (i := 20) (N := some 210) (v := ?_) (a' := ?_) #[true, true, true, true, true, true, true, true, true, true, true, true, true, true, true, true, true, true, false, true, true, false, false, false, false, false, false, false] rfl rfl (any_of HT_.out (by kernel_rfl)) (fun _ _ _ h => h) (Or.inl ⟨by rfl, ?_⟩) ?_ ?_
          rotate_left
          ·intro w'
           go_simp
           with_reducible rfl
          rotate_left
          ·simp only [Act.put, List.setIfInBounds_toArray, List.set_cons_zero, List.set_cons_succ, i64_w, i32_w]
           rfl
          refine pure_ (i := 21) (N := some 211) (v := ?_) (a' := ?_) #[true, true, true, true, true, true, true, true, true, true, true, true, true, true, true, true, true, true, false, true, true, true, false, false, false, false, false, false] rfl rfl (any_of HT_.out (by kernel_rfl)) (fun _ _ _ h => h) (Or.inl ⟨by rfl, ?_⟩) ?_ ?_
          rotate_left
          ·intro w'
           go_simp
           with_reducible rfl
          rotate_left
          ·simp only [Act.put, List.setIfInBounds_toArray, List.set_cons_zero, List.set_cons_succ, i64_w, i32_w]
           rfl
          refine pure_ (i := 22) (N := some 212) (v := ?_) (a' := ?_) #[true, true, true, true, true, true, true, true, true, true, true, true, true, true, true, true, true, true, false, true, true, true, true, false, false, false, false, false] rfl rfl (any_of HT_.out (by kernel_rfl)) (fun _ _ _ h => h) (Or.inl ⟨by rfl, ?_⟩) ?_ ?_
          rotate_left
          ·intro w'
           go_simp
           with_reducible rfl
          rotate_left
          ·simp only [Act.put, List.setIfInBounds_toArray, List.set_cons_zero, List.set_cons_succ, i64_w, i32_w]
           rfl
          refine pure_ (i := 24) (N := some 214) (v := ?_) (a' := ?_) #[true, true, true, true, true, true, true, true, true, true, true, true, true, true, true, true, true, true, false, true, true, true, true, false, true, false, false, false] rfl rfl (any_of HT_.out (by kernel_rfl)) (fun _ _ _ h => h) (Or.inl ⟨by rfl, ?_⟩) ?_ ?_
          rotate_left
          ·intro w'
           go_simp
           with_reducible rfl
          rotate_left
          ·simp only [Act.put, List.setIfInBounds_toArray, List.set_cons_zero, List.set_cons_succ, i64_w, i32_w]
           rfl
          refine take_ (i := 18) (N := some 208) (v := ?_) (a' := ?_) #[true, true, true, true, true, true, true, true, true, true, true, true, true, true, true, true, true, true, true, true, true, true, true, false, true, false, false, false] rfl rfl (take_ofW HT_.out HW_.out (by kernel_rfl)) (fun _ _ _ h => h) (Or.inl ⟨by rfl, ?_⟩) hHeld ?_ ?_
          rotate_left
          ·rintro w' ⟨s0, s1, s2, s3⟩
           go_simp
           with_reducible rfl
          rotate_left
          ·simp only [Act.put, List.setIfInBounds_toArray, List.set_cons_zero, List.set_cons_succ, i64_w, i32_w]
           rfl
          refine take_ (i := 23) (N := some 213) (v := ?_) (a' := ?_) #[true, true, true, true, true, true, true, true, true, true, true, true, true, true, true, true, true, true, true, true, true, true, true, true, true, false, false, false] rfl rfl (take_ofW HT_.out HW_.out (by kernel_rfl)) (fun _ _ _ h => h) (Or.inl ⟨by rfl, ?_⟩) hHeld ?_ ?_
          rotate_left
          ·rintro w' ⟨s0, s1, s2, s3⟩
           go_simp
           with_reducible rfl
          rotate_left
          ·simp only [Act.put, List.setIfInBounds_toArray, List.set_cons_zero, List.set_cons_succ, i64_w, i32_w]
           rfl
          refine pure_ (i := 25) (N := some 215) (v := ?_) (a' := ?_) #[true, true, true, true, true, true, true, true, true, true, true, true, true, true, true, true, true, true, true, true, true, true, true, true, true, true, false, false] rfl rfl (any_of HT_.out (by kernel_rfl)) (fun _ _ _ h => h) (Or.inl ⟨by rfl, ?_⟩) ?_ ?_
          rotate_left
          ·intro w'
           go_simp
           with_reducible rfl
          rotate_left
          ·simp only [Act.put, List.setIfInBounds_toArray, List.set_cons_zero, List.set_cons_succ, i64_w, i32_w]
           rfl
          refine pure_ (i := 26) (N := some 216) (v := ?_) (a' := ?_) #[true, true, true, true, true, true, true, true, true, true, true, true, true, true, true, true, true, true, true, true, true, true, true, true, true, true, true, false] rfl rfl (any_of HT_.out (by kernel_rfl)) (fun _ _ _ h => h) (Or.inl ⟨by rfl, ?_⟩) ?_ ?_
          rotate_left
          ·intro w'
           go_simp
           with_reducible rfl
          rotate_left
          ·simp only [Act.put, List.setIfInBounds_toArray, List.set_cons_zero, List.set_cons_succ, i64_w, i32_w]
           rfl
          refine pure_ (i := 27) (N := some 217) (v := ?_) (a' := ?_) #[true, true, true, true, true, true, true, true, true, true, true, true, true, true, true, true, true, true, true, true, true, true, true, true, true, true, true, true] rfl rfl (any_of HT_.out (by kernel_rfl)) (fun _ _ _ h => h) (Or.inl ⟨by rfl, ?_⟩) ?_ ?_
          rotate_left
          ·intro w'
           go_simp
           with_reducible rfl
          rotate_left
          ·simp only [Act.put, List.setIfInBounds_toArray, List.set_cons_zero, List.set_cons_succ, i64_w, i32_w]
           rfl
          refine done_ (done_of HT_.out (by kernel_rfl)) ?_
          go_wp2
          go_roundw
          case rel => exact ⟨i + 1, by omega, by omega, by go_num, ⟨by repeat (first | (with_reducible exact HBr.out) | apply below_alloc | apply pw_below_drewN | apply below_drew1)⟩⟩
          case measure => simp [intOf]; omega
         ·have p2 : decide (i < (sp.length : Int)) = false := decide_eq_false (by omega)
          replace B3 := Aside0.mk (blk_below (g := gb690) (o := .cells #[.slice A0_0 l0_0.length c0_0, .slice A0_1 l0_1.length c0_1, .int .i64 a0_2, .slice A0_3 l0_3.length c0_3] 26 (0, 0)) B3.out HBr.out)
          replace BX := Aside0.mk (blk_below (g := gb693) (o := .cells #[.slice Ax x694000_1.length cx, .slice A0_1 l0_1.length c0_1, .int .i64 a0_2, .slice Ay x694003_2.length cy] 26 (0, 0)) BX.out HBr.out)
          replace HB := Aside0.mk (below_step HB.out HBr.out)
          replace HX := Aside0.mk (HX.out.below HBr.out)
          clear HBr HSp HTp HIn H6
          have lt_B3 := blk_lt B3.out
          have lt_BX := blk_lt BX.out
          obtain ⟨p0, p1, p3, p4⟩ := cells4 B3.out
          by_cases hl : l0_3.length = 0
          ·have e0 : ((l0_3.length : Int) == 0) = true := beq_iff_eq.2 (by omega)
           clear hl
           go_wp2_with (first | (go_at_call 18; (with_reducible refine (wakes_any _).mono ?_); rintro e w13 ⟨rfl, hb⟩; replace HB := Aside0.mk (below_step (by repeat (first | (with_reducible exact HB.out) | apply below_alloc | apply pw_below_drewN | apply below_drew1 | refine below_set ?_ (by omega))) hb); clear hb))
           go_ret
           exact ⟨rfl, HB.out⟩
          ·have e0 : ((l0_3.length : Int) == 0) = false := beq_eq_false_iff_ne.2 (by omega)
           obtain ⟨t0, t1, eh, ht1, ht2⟩ := HSh.out (by omega)
           have HT1 := Aside0.mk (fun {W' : World} {u : Value} (hu : In34 W' u (l0_0.map m46) l0_1 a0_2 (l0_3.map m75)) => (by have := shifts_at hu (Int.tmod a2 (l0_3.length : Int)); rw [ht1] at this; exact this : Calls Try.prog 32 #[u, .int .i64 (Int.tmod a2 (l0_3.length : Int))] W' (fun e w' => e = .returned (.tuple #[.agg #[.int .i64 t0, .int .i64 t1], .int .i64 eh]) ∧ Below W'.heap.size W' w')))
           have HT2 := Aside0.mk (fun {W' : World} {u : Value} (hu : In34 W' u (x694000_1.map m46) l0_1 a0_2 (x694003_2.map m75)) => (by have := shifts_at hu (Int.tmod a2 (l0_3.length : Int)); rw [ht2] at this; exact this : Calls Try.prog 32 #[u, .int .i64 (Int.tmod a2 (l0_3.length : Int))] W' (fun e w' => e = .returned (.tuple #[.agg #[.int .i64 t0, .int .i64 t1], .int .i64 eh]) ∧ Below W'.heap.size W' w')))
           clear hl ht1 ht2 HSh
           have e1 : IntKind.i64.wrap a2 = a2 := IntWalk.i64_in _ (by omega)
           have e0b : ¬ (l0_3 = []) := fun h_ => (by rw [h_] at e0; simp at e0)
           have heh : (eh == eh) = true := beq_self_eq_true eh
           go_wp2
           clear p0 p1 p3 p4 p2
           have BN := blk_drew B3.out
           refine start_ (n := 15) (S := fun w' => w'.cell? ⟨gb690, 0, none⟩ = some (.slice A0_0 l0_0.length c0_0) ∧ w'.cell? ⟨gb690, 1, none⟩ = some (.slice A0_1 l0_1.length c0_1) ∧ w'.cell? ⟨gb690, 2, none⟩ = some (.int .i64 a0_2) ∧ w'.cell? ⟨gb690, 3, none⟩ = some (.slice A0_3 l0_3.length c0_3)) (ds := []) #[false, false, false, false, false, false, false, false, false, false, false, false, false, false, false] (by kernel_rfl) rfl rfl ⟨(blk_cell BN 0).trans rfl, (blk_cell BN 1).trans rfl, (blk_cell BN 2).trans rfl, (blk_cell BN 3).trans rfl⟩ (fun hHeld => ?_); refine with_tabW tensilelaw08_RoundMoved.tab37 tensilelaw08_RoundMoved.bits37 (fun HT_ HW_ => ?_)
           clear BN
           have HD := Aside0.mk (below_drew1 (Below.refl wr.heap.size wr))
           generalize wr.drew = wd at HD hHeld ⊢
           refine pure_ (i := 2) (N := some 226) (v := ?_) (a' := ?_) #[false, false, true, false, false, false, false, false, false, false, false, false, false, false, false] rfl rfl (any_of HT_.out (by kernel_rfl)) (fun _ _ _ h => h) (Or.inl ⟨by rfl, ?_⟩) ?_ ?_
           rotate_left
           ·intro w'
            go_simp
            with_reducible rfl
           rotate_left
           ·simp only [Act.put, List.setIfInBounds_toArray, List.set_cons_zero, List.set_cons_succ, i64_w, i32_w]
            rfl
           refine pure_ (i := 3) (N := some 227) (v := ?_) (a' := ?_) #[false, false, true, true, false, false, false, false, false, false, false, false, false, false, false] rfl rfl (any_of HT_.out (by kernel_rfl)) (fun _ _ _ h => h) (Or.inl ⟨by rfl, ?_⟩) ?_ ?_
           rotate_left
           ·intro w'
            go_simp
            with_reducible rfl
           rotate_left
           ·simp only [Act.put, List.setIfInBounds_toArray, List.set_cons_zero, List.set_cons_succ, i64_w, i32_w]
            rfl
           refine pure_ (i := 4) (N := some 228) (v := ?_) (a' := ?_) #[false, false, true, true, true, false, false, false, false, false, false, false, false, false, false] rfl rfl (any_of HT_.out (by kernel_rfl)) (fun _ _ _ h => h) (Or.inl ⟨by rfl, ?_⟩) ?_ ?_
           rotate_left
           ·intro w'
            go_simp
            with_reducible rfl
           rotate_left
           ·simp only [Act.put, List.setIfInBounds_toArray, List.set_cons_zero, List.set_cons_succ, i64_w, i32_w]
            rfl
           refine take_ (i := 0) (N := some 224) (v := ?_) (a' := ?_) #[true, false, true, true, true, false, false, false, false, false, false, false, false, false, false] rfl rfl (take_ofW HT_.out HW_.out (by kernel_rfl)) (fun _ _ _ h => h) (Or.inl ⟨by rfl, ?_⟩) hHeld ?_ ?_
           rotate_left
           ·rintro w' ⟨s0, s1, s2, s3⟩
            go_simp
            with_reducible rfl
           rotate_left
           ·simp only [Act.put, List.setIfInBounds_toArray, List.set_cons_zero, List.set_cons_succ, i64_w, i32_w]
            rfl
           refine take_ (i := 5) (N := some 229) (v := ?_) (a' := ?_) #[true, false, true, true, true, true, false, false, false, false, false, false, false, false, false] rfl rfl (take_ofW HT_.out HW_.out (by kernel_rfl)) (fun _ _ _ h => h) (Or.inl ⟨by rfl, ?_⟩) hHeld ?_ ?_
           rotate_left
           ·rintro w' ⟨s0, s1, s2, s3⟩
            go_simp
            with_reducible rfl
           rotate_left
           ·simp only [Act.put, List.setIfInBounds_toArray, List.set_cons_zero, List.set_cons_succ, i64_w, i32_w]
            rfl
           refine pure_ (i := 6) (N := some 230) (v := ?_) (a' := ?_) #[true, false, true, true, true, true, true, false, false, false, false, false, false, false, false] rfl rfl (any_of HT_.out (by kernel_rfl)) (fun _ _ _ h => h) (Or.inl ⟨by rfl, ?_⟩) ?_ ?_
           rotate_left
           ·intro w'
            go_simp
            with_reducible rfl
           rotate_left
           ·simp only [Act.put, List.setIfInBounds_toArray, List.set_cons_zero, List.set_cons_succ, i64_w, i32_w]
            rfl
           refine pure_ (i := 7) (N := some 231) (v := ?_) (a' := ?_) #[true, false, true, true, true, true, true, true, false, false, false, false, false, false, false] rfl rfl (any_of HT_.out (by kernel_rfl)) (fun _ _ _ h => h) (Or.inl ⟨by rfl, ?_⟩) ?_ ?_
           rotate_left
           ·intro w'
            go_simp
            with_reducible rfl
           rotate_left
           ·simp only [Act.put, List.setIfInBounds_toArray, List.set_cons_zero, List.set_cons_succ, i64_w, i32_w]
            rfl
           refine join_ (σ := Value × Nat) 2 #[true, true, true, true, true, true, true, true, true, true, true, true, true, false, false] (fun s_ => [(225, s_.1), (232, .tuple #[.agg #[.int .i64 t0, .int .i64 t1], .int .i64 eh]), (26, .pointer (some ⟨s_.2, 0, none⟩)), (223, .tuple #[.agg #[.int .i64 t0, .int .i64 t1], .int .i64 eh]), (233, .agg #[.int .i64 t0, .int .i64 t1]), (234, .int .i64 eh)]) (fun s_ w' => (w'.cell? ⟨gb690, 0, none⟩ = some (.slice A0_0 l0_0.length c0_0) ∧ w'.cell? ⟨gb690, 1, none⟩ = some (.slice A0_1 l0_1.length c0_1) ∧ w'.cell? ⟨gb690, 2, none⟩ = some (.int .i64 a0_2) ∧ w'.cell? ⟨gb690, 3, none⟩ = some (.slice A0_3 l0_3.length c0_3)) ∧ (w'.heap[s_.2]? = some (.cells #[.int .i64 0, .int .i64 0] 46 (0, 0))) ∧ (wr.heap.size ≤ s_.2) ∧ (Below wr.heap.size wr w')) ?_ ?_
           rotate_left
           ·intro hCont
            refine two_ (i := 1) (j := 12) (Ni := some 225) (Nj := some 26) #[true, true, true, true, true, true, true, true, false, false, false, false, false, false, false] #[true, false, true, true, true, true, true, true, false, false, false, false, true, false, false] rfl rfl rfl rfl (two_of HT_.out (by kernel_rfl)) (by decide) (by decide) (fun K hK => ?_) (fun K hK => ?_)
            ·skip
             refine goes_ Try.func20 (by kernel_rfl) rfl #[.agg #[.slice A0_0 l0_0.length c0_0, .slice A0_1 l0_1.length c0_1, .int .i64 a0_2, .slice A0_3 l0_3.length c0_3]] (by rfl) rfl rfl (by simp only [List.map_toArray, List.map_cons, List.map_nil]; rfl) ?_
             with_reducible refine (round_at (HI.out.below (below_step HB.out HD.out)) HTh.out).mono ?_
             rintro e wA ⟨u, rfl, hu, hb⟩
             refine ⟨_, rfl, ?_⟩
             have HU := Aside0.mk hu
             (try replace BG := Aside0.mk (blk_below (g := gS) (o := .cells #[.int .i64 0, .int .i64 0] 46 (0, 0)) BG.out hb))
             replace HD := Aside0.mk (below_step HD.out hb)
             clear hu hb
             have BN := blk_below (g := gb690) (o := .cells #[.slice A0_0 l0_0.length c0_0, .slice A0_1 l0_1.length c0_1, .int .i64 a0_2, .slice A0_3 l0_3.length c0_3] 26 (0, 0)) B3.out HD.out
             refine hK.out _ _ ⟨(blk_cell BN 0).trans rfl, (blk_cell BN 1).trans rfl, (blk_cell BN 2).trans rfl, (blk_cell BN 3).trans rfl⟩ (fun hHeld => ?_)
             clear hK K BN
             refine norm_ (a' := ?_) ?_ ?_
             rotate_left
             ·show Act.put _ (some 225) _ = _
              simp only [Act.put, List.setIfInBounds_toArray, List.set_cons_zero, List.set_cons_succ, i64_w, i32_w]
              rfl
             refine two_ (i := 8) (j := 12) (Ni := some 232) (Nj := some 26) #[true, true, true, true, true, true, true, true, true, false, false, false, false, false, false] #[true, true, true, true, true, true, true, true, false, false, false, false, true, false, false] rfl rfl rfl rfl (two_of HT_.out (by kernel_rfl)) (by decide) (by decide) (fun K hK => ?_) (fun K hK => ?_)
             ·skip
              refine goes_ Try.func32 (by kernel_rfl) rfl #[u, .int .i64 (Int.tmod a2 (l0_3.length : Int))] (by rfl) rfl rfl (by simp only [List.map_toArray, List.map_cons, List.map_nil]; rfl) ?_
              with_reducible refine (HT1.out HU.out).mono ?_
              rintro e wA ⟨rfl, hb⟩
              refine ⟨_, rfl, ?_⟩
              (try replace BG := Aside0.mk (blk_below (g := gS) (o := .cells #[.int .i64 0, .int .i64 0] 46 (0, 0)) BG.out hb))
              replace HD := Aside0.mk (below_step HD.out hb)
              clear hb HU
              have BN := blk_below (g := gb690) (o := .cells #[.slice A0_0 l0_0.length c0_0, .slice A0_1 l0_1.length c0_1, .int .i64 a0_2, .slice A0_3 l0_3.length c0_3] 26 (0, 0)) B3.out HD.out
              refine hK.out _ _ ⟨(blk_cell BN 0).trans rfl, (blk_cell BN 1).trans rfl, (blk_cell BN 2).trans rfl, (blk_cell BN 3).trans rfl⟩ (fun hHeld => ?_)
              clear hK K BN
              refine norm_ (a' := ?_) ?_ ?_
              rotate_left
              ·show Act.put _ (some 232) _ = _
               simp only [Act.put, List.setIfInBounds_toArray, List.set_cons_zero, List.set_cons_succ, i64_w, i32_w]
               rfl
              refine pure_ (i := 9) (N := some 223) (v := ?_) (a' := ?_) #[true, true, true, true, true, true, true, true, true, true, false, false, false, false, false] rfl rfl (any_of HT_.out (by kernel_rfl)) (fun _ _ _ h => h) (Or.inl ⟨by rfl, ?_⟩) ?_ ?_
              rotate_left
              ·intro w'
               go_simp
               with_reducible rfl
              rotate_left
              ·simp only [Act.put, List.setIfInBounds_toArray, List.set_cons_zero, List.set_cons_succ, i64_w, i32_w]
               rfl
              refine pure_ (i := 10) (N := some 233) (v := ?_) (a' := ?_) #[true, true, true, true, true, true, true, true, true, true, true, false, false, false, false] rfl rfl (any_of HT_.out (by kernel_rfl)) (fun _ _ _ h => h) (Or.inl ⟨by rfl, ?_⟩) ?_ ?_
              rotate_left
              ·intro w'
               go_simp
               with_reducible rfl
              rotate_left
              ·simp only [Act.put, List.setIfInBounds_toArray, List.set_cons_zero, List.set_cons_succ, i64_w, i32_w]
               rfl
              refine pure_ (i := 11) (N := some 234) (v := ?_) (a' := ?_) #[true, true, true, true, true, true, true, true, true, true, true, true, false, false, false] rfl rfl (any_of HT_.out (by kernel_rfl)) (fun _ _ _ h => h) (Or.inl ⟨by rfl, ?_⟩) ?_ ?_
              rotate_left
              ·intro w'
               go_simp
               with_reducible rfl
              rotate_left
              ·simp only [Act.put, List.setIfInBounds_toArray, List.set_cons_zero, List.set_cons_succ, i64_w, i32_w]
               rfl
              refine one_ (i := 12) (N := some 26) #[true, true, true, true, true, true, true, true, true, true, true, true, true, false, false] rfl rfl (one_of HT_.out (by kernel_rfl)) (by decide) (fun K hK => ?_)
              refine box_step ?hg (N := 26) ?hd (cs := #[.int .i64 0, .int .i64 0]) (t := 46) ?hr ?_; (case hd => rfl); (case hg => rfl); (case hr => first | (go_simp; done) | (go_simp; rfl))
              intro gS hg wC hbox hb
              have BG := Aside0.mk hbox
              have HG := Aside0.mk ((by rw [hg]; exact below_size HD.out) : wr.heap.size ≤ gS)
              (try replace HU := Aside0.mk (HU.out.below hb))
              replace HD := Aside0.mk (below_step HD.out hb)
              clear hb hbox hg
              have BN := blk_below (g := gb690) (o := .cells #[.slice A0_0 l0_0.length c0_0, .slice A0_1 l0_1.length c0_1, .int .i64 a0_2, .slice A0_3 l0_3.length c0_3] 26 (0, 0)) B3.out HD.out
              refine hK.out _ _ ⟨(blk_cell BN 0).trans rfl, (blk_cell BN 1).trans rfl, (blk_cell BN 2).trans rfl, (blk_cell BN 3).trans rfl⟩ (fun hHeld => ?_)
              clear hK K BN
              refine norm_ (a' := ?_) ?_ ?_
              rotate_left
              ·show Act.put _ (some 26) _ = _
               simp only [Act.put, List.setIfInBounds_toArray, List.set_cons_zero, List.set_cons_succ, i64_w, i32_w]
               rfl
              exact norm_ (by simp only [putAll, Act.put, List.setIfInBounds_toArray, List.set_cons_zero, List.set_cons_succ]) (hCont (u, gS) _ ⟨hHeld, BG.out, HG.out, HD.out⟩)
             ·skip
              refine box_step ?hg (N := 26) ?hd (cs := #[.int .i64 0, .int .i64 0]) (t := 46) ?hr ?_; (case hd => rfl); (case hg => rfl); (case hr => first | (go_simp; done) | (go_simp; rfl))
              intro gS hg wC hbox hb
              have BG := Aside0.mk hbox
              have HG := Aside0.mk ((by rw [hg]; exact below_size HD.out) : wr.heap.size ≤ gS)
              (try replace HU := Aside0.mk (HU.out.below hb))
              replace HD := Aside0.mk (below_step HD.out hb)
              clear hb hbox hg
              have BN := blk_below (g := gb690) (o := .cells #[.slice A0_0 l0_0.length c0_0, .slice A0_1 l0_1.length c0_1, .int .i64 a0_2, .slice A0_3 l0_3.length c0_3] 26 (0, 0)) B3.out HD.out
              refine hK.out _ _ ⟨(blk_cell BN 0).trans rfl, (blk_cell BN 1).trans rfl, (blk_cell BN 2).trans rfl, (blk_cell BN 3).trans rfl⟩ (fun hHeld => ?_)
              clear hK K BN
              refine norm_ (a' := ?_) ?_ ?_
              rotate_left
              ·show Act.put _ (some 26) _ = _
               simp only [Act.put, List.setIfInBounds_toArray, List.set_cons_zero, List.set_cons_succ, i64_w, i32_w]
               rfl
              refine one_ (i := 8) (N := some 232) #[true, true, true, true, true, true, true, true, true, false, false, false, true, false, false] rfl rfl (one_of HT_.out (by kernel_rfl)) (by decide) (fun K hK => ?_)
              refine goes_ Try.func32 (by kernel_rfl) rfl #[u, .int .i64 (Int.tmod a2 (l0_3.length : Int))] (by rfl) rfl rfl (by simp only [List.map_toArray, List.map_cons, List.map_nil]; rfl) ?_
              with_reducible refine (HT1.out HU.out).mono ?_
              rintro e wA ⟨rfl, hb⟩
              refine ⟨_, rfl, ?_⟩
              (try replace BG := Aside0.mk (blk_below (g := gS) (o := .cells #[.int .i64 0, .int .i64 0] 46 (0, 0)) BG.out hb))
              replace HD := Aside0.mk (below_step HD.out hb)
              clear hb HU
              have BN := blk_below (g := gb690) (o := .cells #[.slice A0_0 l0_0.length c0_0, .slice A0_1 l0_1.length c0_1, .int .i64 a0_2, .slice A0_3 l0_3.length c0_3] 26 (0, 0)) B3.out HD.out
              refine hK.out _ _ ⟨(blk_cell BN 0).trans rfl, (blk_cell BN 1).trans rfl, (blk_cell BN 2).trans rfl, (blk_cell BN 3).trans rfl⟩ (fun hHeld => ?_)
              clear hK K BN
              refine norm_ (a' := ?_) ?_ ?_
              rotate_left
              ·show Act.put _ (some 232) _ = _
               simp only [Act.put, List.setIfInBounds_toArray, List.set_cons_zero, List.set_cons_succ, i64_w, i32_w]
               rfl
              refine pure_ (i := 9) (N := some 223) (v := ?_) (a' := ?_) #[true, true, true, true, true, true, true, true, true, true, false, false, true, false, false] rfl rfl (any_of HT_.out (by kernel_rfl)) (fun _ _ _ h => h) (Or.inl ⟨by rfl, ?_⟩) ?_ ?_
              rotate_left
              ·intro w'
               go_simp
               with_reducible rfl
              rotate_left
              ·simp only [Act.put, List.setIfInBounds_toArray, List.set_cons_zero, List.set_cons_succ, i64_w, i32_w]
               rfl
              refine pure_ (i := 10) (N := some 233) (v := ?_) (a' := ?_) #[true, true, true, true, true, true, true, true, true, true, true, false, true, false, false] rfl rfl (any_of HT_.out (by kernel_rfl)) (fun _ _ _ h => h) (Or.inl ⟨by rfl, ?_⟩) ?_ ?_
              rotate_left
              ·intro w'
               go_simp
               with_reducible rfl
              rotate_left
              ·simp only [Act.put, List.setIfInBounds_toArray, List.set_cons_zero, List.set_cons_succ, i64_w, i32_w]
               rfl
              refine pure_ (i := 11) (N := some 234) (v := ?_) (a' := ?_) #[true, true, true, true, true, true, true, true, true, true, true, true, true, false, false] rfl rfl (any_of HT_.out (by kernel_rfl)) (fun _ _ _ h => h) (Or.inl ⟨by rfl, ?_⟩) ?_ ?_
              rotate_left
              ·intro w'
               go_simp
               with_reducible rfl
              rotate_left
              ·simp only [Act.put, List.setIfInBounds_toArray, List.set_cons_zero, List.set_cons_succ, i64_w, i32_w]
               rfl
              exact norm_ (by simp only [putAll, Act.put, List.setIfInBounds_toArray, List.set_cons_zero, List.set_cons_succ]) (hCont (u, gS) _ ⟨hHeld, BG.out, HG.out, HD.out⟩)
            ·skip
             refine box_step ?hg (N := 26) ?hd (cs := #[.int .i64 0, .int .i64 0]) (t := 46) ?hr ?_; (case hd => rfl); (case hg => rfl); (case hr => first | (go_simp; done) | (go_simp; rfl))
             intro gS hg wC hbox hb
             have BG := Aside0.mk hbox
             have HG := Aside0.mk ((by rw [hg]; exact below_size HD.out) : wr.heap.size ≤ gS)
             (try replace HU := Aside0.mk (HU.out.below hb))
             replace HD := Aside0.mk (below_step HD.out hb)
             clear hb hbox hg
             have BN := blk_below (g := gb690) (o := .cells #[.slice A0_0 l0_0.length c0_0, .slice A0_1 l0_1.length c0_1, .int .i64 a0_2, .slice A0_3 l0_3.length c0_3] 26 (0, 0)) B3.out HD.out
             refine hK.out _ _ ⟨(blk_cell BN 0).trans rfl, (blk_cell BN 1).trans rfl, (blk_cell BN 2).trans rfl, (blk_cell BN 3).trans rfl⟩ (fun hHeld => ?_)
             clear hK K BN
             refine norm_ (a' := ?_) ?_ ?_
             rotate_left
             ·show Act.put _ (some 26) _ = _
              simp only [Act.put, List.setIfInBounds_toArray, List.set_cons_zero, List.set_cons_succ, i64_w, i32_w]
              rfl
             refine one_ (i := 1) (N := some 225) #[true, true, true, true, true, true, true, true, false, false, false, false, true, false, false] rfl rfl (one_of HT_.out (by kernel_rfl)) (by decide) (fun K hK => ?_)
             refine goes_ Try.func20 (by kernel_rfl) rfl #[.agg #[.slice A0_0 l0_0.length c0_0, .slice A0_1 l0_1.length c0_1, .int .i64 a0_2, .slice A0_3 l0_3.length c0_3]] (by rfl) rfl rfl (by simp only [List.map_toArray, List.map_cons, List.map_nil]; rfl) ?_
             with_reducible refine (round_at (HI.out.below (below_step HB.out HD.out)) HTh.out).mono ?_
             rintro e wA ⟨u, rfl, hu, hb⟩
             refine ⟨_, rfl, ?_⟩
             have HU := Aside0.mk hu
             (try replace BG := Aside0.mk (blk_below (g := gS) (o := .cells #[.int .i64 0, .int .i64 0] 46 (0, 0)) BG.out hb))
             replace HD := Aside0.mk (below_step HD.out hb)
             clear hu hb
             have BN := blk_below (g := gb690) (o := .cells #[.slice A0_0 l0_0.length c0_0, .slice A0_1 l0_1.length c0_1, .int .i64 a0_2, .slice A0_3 l0_3.length c0_3] 26 (0, 0)) B3.out HD.out
             refine hK.out _ _ ⟨(blk_cell BN 0).trans rfl, (blk_cell BN 1).trans rfl, (blk_cell BN 2).trans rfl, (blk_cell BN 3).trans rfl⟩ (fun hHeld => ?_)
             clear hK K BN
             refine norm_ (a' := ?_) ?_ ?_
             rotate_left
             ·show Act.put _ (some 225) _ = _
              simp only [Act.put, List.setIfInBounds_toArray, List.set_cons_zero, List.set_cons_succ, i64_w, i32_w]
              rfl
             refine one_ (i := 8) (N := some 232) #[true, true, true, true, true, true, true, true, true, false, false, false, true, false, false] rfl rfl (one_of HT_.out (by kernel_rfl)) (by decide) (fun K hK => ?_)
             refine goes_ Try.func32 (by kernel_rfl) rfl #[u, .int .i64 (Int.tmod a2 (l0_3.length : Int))] (by rfl) rfl rfl (by simp only [List.map_toArray, List.map_cons, List.map_nil]; rfl) ?_
             with_reducible refine (HT1.out HU.out).mono ?_
             rintro e wA ⟨rfl, hb⟩
             refine ⟨_, rfl, ?_⟩
             (try replace BG := Aside0.mk (blk_below (g := gS) (o := .cells #[.int .i64 0, .int .i64 0] 46 (0, 0)) BG.out hb))
             replace HD := Aside0.mk (below_step HD.out hb)
             clear hb HU
             have BN := blk_below (g := gb690) (o := .cells #[.slice A0_0 l0_0.length c0_0, .slice A0_1 l0_1.length c0_1, .int .i64 a0_2, .slice A0_3 l0_3.length c0_3] 26 (0, 0)) B3.out HD.out
             refine hK.out _ _ ⟨(blk_cell BN 0).trans rfl, (blk_cell BN 1).trans rfl, (blk_cell BN 2).trans rfl, (blk_cell BN 3).trans rfl⟩ (fun hHeld => ?_)
             clear hK K BN
             refine norm_ (a' := ?_) ?_ ?_
             rotate_left
             ·show Act.put _ (some 232) _ = _
              simp only [Act.put, List.setIfInBounds_toArray, List.set_cons_zero, List.set_cons_succ, i64_w, i32_w]
              rfl
             refine pure_ (i := 9) (N := some 223) (v := ?_) (a' := ?_) #[true, true, true, true, true, true, true, true, true, true, false, false, true, false, false] rfl rfl (any_of HT_.out (by kernel_rfl)) (fun _ _ _ h => h) (Or.inl ⟨by rfl, ?_⟩) ?_ ?_
             rotate_left
             ·intro w'
              go_simp
              with_reducible rfl
             rotate_left
             ·simp only [Act.put, List.setIfInBounds_toArray, List.set_cons_zero, List.set_cons_succ, i64_w, i32_w]
              rfl
             refine pure_ (i := 10) (N := some 233) (v := ?_) (a' := ?_) #[true, true, true, true, true, true, true, true, true, true, true, false, true, false, false] rfl rfl (any_of HT_.out (by kernel_rfl)) (fun _ _ _ h => h) (Or.inl ⟨by rfl, ?_⟩) ?_ ?_
             rotate_left
             ·intro w'
              go_simp
              with_reducible rfl
             rotate_left
             ·simp only [Act.put, List.setIfInBounds_toArray, List.set_cons_zero, List.set_cons_succ, i64_w, i32_w]
              rfl
             refine pure_ (i := 11) (N := some 234) (v := ?_) (a' := ?_) #[true, true, true, true, true, true, true, true, true, true, true, true, true, false, false] rfl rfl (any_of HT_.out (by kernel_rfl)) (fun _ _ _ h => h) (Or.inl ⟨by rfl, ?_⟩) ?_ ?_
             rotate_left
             ·intro w'
              go_simp
              with_reducible rfl
             rotate_left
             ·simp only [Act.put, List.setIfInBounds_toArray, List.set_cons_zero, List.set_cons_succ, i64_w, i32_w]
              rfl
             exact norm_ (by simp only [putAll, Act.put, List.setIfInBounds_toArray, List.set_cons_zero, List.set_cons_succ]) (hCont (u, gS) _ ⟨hHeld, BG.out, HG.out, HD.out⟩)
           clear HD hHeld
           rintro ⟨u, gS⟩ w6 ⟨hHeld, hBG, hle, hD⟩
           refine norm_ (a' := ?_) ?_ ?_
           rotate_left
           ·simp only [putAll, Act.put, List.setIfInBounds_toArray, List.set_cons_zero, List.set_cons_succ]
            rfl
           refine one_ (i := 13) (N := none) #[true, true, true, true, true, true, true, true, true, true, true, true, true, true, false] rfl rfl (one_of HT_.out (by kernel_rfl)) (by decide) (fun K hK => ?_)
           have hs0 : w6.cell? ⟨gS, 0, none⟩ = some (.int .i64 0) := (blk_cell hBG 0).trans rfl
           have hs1 : w6.cell? ⟨gS, 1, none⟩ = some (.int .i64 0) := (blk_cell hBG 1).trans rfl
           have hf0 := blk_frozen hBG 0
           have hf1 := blk_frozen hBG 1
           have BG := Aside0.mk hBG
           have HD := Aside0.mk hD
           have ltS := blk_lt B3.out
           have hne : gb690 ≠ gS := by omega
           clear hBG hD
           refine skip_ (w1 := ?_) (by rfl) rfl ?_ ?_
           rotate_left
           ·go_simp
            rfl
           refine hK.out _ _ ⟨((cell_far (p := ⟨gS, _, none⟩) hne _).trans ((cell_far (p := ⟨gS, _, none⟩) hne _).trans (hHeld.1))), ((cell_far (p := ⟨gS, _, none⟩) hne _).trans ((cell_far (p := ⟨gS, _, none⟩) hne _).trans (hHeld.2.1))), ((cell_far (p := ⟨gS, _, none⟩) hne _).trans ((cell_far (p := ⟨gS, _, none⟩) hne _).trans (hHeld.2.2.1))), ((cell_far (p := ⟨gS, _, none⟩) hne _).trans ((cell_far (p := ⟨gS, _, none⟩) hne _).trans (hHeld.2.2.2)))⟩ (fun hHeld => ?_)
           clear hK K hs0 hs1 hf0 hf1 hne ltS
           refine pure_ (i := 14) (N := some 27) (v := ?_) (a' := ?_) #[true, true, true, true, true, true, true, true, true, true, true, true, true, true, true] rfl rfl (any_of HT_.out (by kernel_rfl)) (fun _ _ _ h => h) (Or.inl ⟨by rfl, ?_⟩) ?_ ?_
           rotate_left
           ·intro w'
            go_simp
            with_reducible rfl
           rotate_left
           ·simp only [Act.put, List.setIfInBounds_toArray, List.set_cons_zero, List.set_cons_succ, i64_w, i32_w]
            rfl
           refine done_ (done_of HT_.out (by kernel_rfl)) ?_
           clear hHeld
           try go_wp2
           have HD2 : Below wr.heap.size wr ((w6.setCell ⟨gS, 0, none⟩ (.int .i64 t0)).setCell ⟨gS, 1, none⟩ (.int .i64 t1)) := below_set (below_set HD.out hle) hle
           have BS : Aside0 (((w6.setCell ⟨gS, 0, none⟩ (.int .i64 t0)).setCell ⟨gS, 1, none⟩ (.int .i64 t1)).heap[gS]? = some (.cells #[.int .i64 t0, .int .i64 t1] 46 (0, 0))) := ⟨put2 BG.out _ _⟩
           replace B3 := Aside0.mk (blk_below (g := gb690) (o := .cells #[.slice A0_0 l0_0.length c0_0, .slice A0_1 l0_1.length c0_1, .int .i64 a0_2, .slice A0_3 l0_3.length c0_3] 26 (0, 0)) B3.out HD2)
           replace BX := Aside0.mk (blk_below (g := gb693) (o := .cells #[.slice Ax x694000_1.length cx, .slice A0_1 l0_1.length c0_1, .int .i64 a0_2, .slice Ay x694003_2.length cy] 26 (0, 0)) BX.out HD2)
           replace HB := Aside0.mk (below_step HB.out HD2)
           replace HX := Aside0.mk (HX.out.below HD2)
           clear HD HD2 BG hle
           generalize ((w6.setCell ⟨gS, 0, none⟩ (.int .i64 t0)).setCell ⟨gS, 1, none⟩ (.int .i64 t1)) = w_37 at HB HX BS B3 BX ⊢
           have lt_B3 := blk_lt B3.out
           have lt_BX := blk_lt BX.out
           have BN := blk_drew BX.out
           have BM := blk_drew B3.out
           refine start_ (n := 15) (S := fun w' => w'.cell? ⟨gb693, 0, none⟩ = some (.slice Ax x694000_1.length cx) ∧ w'.cell? ⟨gb693, 1, none⟩ = some (.slice A0_1 l0_1.length c0_1) ∧ w'.cell? ⟨gb693, 2, none⟩ = some (.int .i64 a0_2) ∧ w'.cell? ⟨gb693, 3, none⟩ = some (.slice Ay x694003_2.length cy) ∧ w'.cell? ⟨gb690, 3, none⟩ = some (.slice A0_3 l0_3.length c0_3)) (ds := []) #[false, false, false, false, false, false, false, false, false, false, false, false, false, false, false] (by kernel_rfl) rfl rfl ⟨(blk_cell BN 0).trans rfl, (blk_cell BN 1).trans rfl, (blk_cell BN 2).trans rfl, (blk_cell BN 3).trans rfl, (blk_cell BM 3).trans rfl⟩ (fun hHeld => ?_); refine with_tabW tensilelaw08_RoundMoved.tab38 tensilelaw08_RoundMoved.bits38 (fun HT_ HW_ => ?_)
           clear BN BM
           have HD := Aside0.mk (below_drew1 (Below.refl w_37.heap.size w_37))
           generalize w_37.drew = wd at HD hHeld ⊢
           refine pure_ (i := 2) (N := some 238) (v := ?_) (a' := ?_) #[false, false, true, false, false, false, false, false, false, false, false, false, false, false, false] rfl rfl (any_of HT_.out (by kernel_rfl)) (fun _ _ _ h => h) (Or.inl ⟨by rfl, ?_⟩) ?_ ?_
           rotate_left
           ·intro w'
            go_simp
            with_reducible rfl
           rotate_left
           ·simp only [Act.put, List.setIfInBounds_toArray, List.set_cons_zero, List.set_cons_succ, i64_w, i32_w]
            rfl
           refine pure_ (i := 3) (N := some 239) (v := ?_) (a' := ?_) #[false, false, true, true, false, false, false, false, false, false, false, false, false, false, false] rfl rfl (any_of HT_.out (by kernel_rfl)) (fun _ _ _ h => h) (Or.inl ⟨by rfl, ?_⟩) ?_ ?_
           rotate_left
           ·intro w'
            go_simp
            with_reducible rfl
           rotate_left
           ·simp only [Act.put, List.setIfInBounds_toArray, List.set_cons_zero, List.set_cons_succ, i64_w, i32_w]
            rfl
           refine pure_ (i := 4) (N := some 240) (v := ?_) (a' := ?_) #[false, false, true, true, true, false, false, false, false, false, false, false, false, false, false] rfl rfl (any_of HT_.out (by kernel_rfl)) (fun _ _ _ h => h) (Or.inl ⟨by rfl, ?_⟩) ?_ ?_
           rotate_left
           ·intro w'
            go_simp
            with_reducible rfl
           rotate_left
           ·simp only [Act.put, List.setIfInBounds_toArray, List.set_cons_zero, List.set_cons_succ, i64_w, i32_w]
            rfl
           refine take_ (i := 0) (N := some 236) (v := ?_) (a' := ?_) #[true, false, true, true, true, false, false, false, false, false, false, false, false, false, false] rfl rfl (take_ofW HT_.out HW_.out (by kernel_rfl)) (fun _ _ _ h => h) (Or.inl ⟨by rfl, ?_⟩) hHeld ?_ ?_
           rotate_left
           ·rintro w' ⟨s0, s1, s2, s3, s4⟩
            go_simp
            with_reducible rfl
           rotate_left
           ·simp only [Act.put, List.setIfInBounds_toArray, List.set_cons_zero, List.set_cons_succ, i64_w, i32_w]
            rfl
           refine take_ (i := 5) (N := some 241) (v := ?_) (a' := ?_) #[true, false, true, true, true, true, false, false, false, false, false, false, false, false, false] rfl rfl (take_ofW HT_.out HW_.out (by kernel_rfl)) (fun _ _ _ h => h) (Or.inl ⟨by rfl, ?_⟩) hHeld ?_ ?_
           rotate_left
           ·rintro w' ⟨s0, s1, s2, s3, s4⟩
            go_simp
            with_reducible rfl
           rotate_left
           ·simp only [Act.put, List.setIfInBounds_toArray, List.set_cons_zero, List.set_cons_succ, i64_w, i32_w]
            rfl
           refine pure_ (i := 6) (N := some 242) (v := ?_) (a' := ?_) #[true, false, true, true, true, true, true, false, false, false, false, false, false, false, false] rfl rfl (any_of HT_.out (by kernel_rfl)) (fun _ _ _ h => h) (Or.inl ⟨by rfl, ?_⟩) ?_ ?_
           rotate_left
           ·intro w'
            go_simp
            with_reducible rfl
           rotate_left
           ·simp only [Act.put, List.setIfInBounds_toArray, List.set_cons_zero, List.set_cons_succ, i64_w, i32_w]
            rfl
           refine pure_ (i := 7) (N := some 243) (v := ?_) (a' := ?_) #[true, false, true, true, true, true, true, true, false, false, false, false, false, false, false] rfl rfl (any_of HT_.out (by kernel_rfl)) (fun _ _ _ h => h) (Or.inl ⟨by rfl, ?_⟩) ?_ ?_
           rotate_left
           ·intro w'
            go_simp
            with_reducible rfl
           rotate_left
           ·simp only [Act.put, List.setIfInBounds_toArray, List.set_cons_zero, List.set_cons_succ, i64_w, i32_w]
            rfl
           refine join_ (σ := Value × Nat) 2 #[true, true, true, true, true, true, true, true, true, true, true, true, true, false, false] (fun s_ => [(237, s_.1), (244, .tuple #[.agg #[.int .i64 t0, .int .i64 t1], .int .i64 eh]), (28, .pointer (some ⟨s_.2, 0, none⟩)), (235, .tuple #[.agg #[.int .i64 t0, .int .i64 t1], .int .i64 eh]), (245, .agg #[.int .i64 t0, .int .i64 t1]), (246, .int .i64 eh)]) (fun s_ w' => (w'.cell? ⟨gb693, 0, none⟩ = some (.slice Ax x694000_1.length cx) ∧ w'.cell? ⟨gb693, 1, none⟩ = some (.slice A0_1 l0_1.length c0_1) ∧ w'.cell? ⟨gb693, 2, none⟩ = some (.int .i64 a0_2) ∧ w'.cell? ⟨gb693, 3, none⟩ = some (.slice Ay x694003_2.length cy) ∧ w'.cell? ⟨gb690, 3, none⟩ = some (.slice A0_3 l0_3.length c0_3)) ∧ (w'.heap[s_.2]? = some (.cells #[.int .i64 0, .int .i64 0] 46 (0, 0))) ∧ (w_37.heap.size ≤ s_.2) ∧ (Below w_37.heap.size w_37 w')) ?_ ?_
           rotate_left
           ·intro hCont
            refine two_ (i := 1) (j := 12) (Ni := some 237) (Nj := some 28) #[true, true, true, true, true, true, true, true, false, false, false, false, false, false, false] #[true, false, true, true, true, true, true, true, false, false, false, false, true, false, false] rfl rfl rfl rfl (two_of HT_.out (by kernel_rfl)) (by decide) (by decide) (fun K hK => ?_) (fun K hK => ?_)
            ·skip
             refine goes_ Try.func20 (by kernel_rfl) rfl #[.agg #[.slice Ax x694000_1.length cx, .slice A0_1 l0_1.length c0_1, .int .i64 a0_2, .slice Ay x694003_2.length cy]] (by rfl) rfl rfl (by simp only [List.map_toArray, List.map_cons, List.map_nil]; rfl) ?_
             with_reducible refine (round_at (HX.out.below HD.out) HThX.out).mono ?_
             rintro e wA ⟨u, rfl, hu, hb⟩
             refine ⟨_, rfl, ?_⟩
             have HU := Aside0.mk hu
             (try replace BG := Aside0.mk (blk_below (g := gT) (o := .cells #[.int .i64 0, .int .i64 0] 46 (0, 0)) BG.out hb))
             replace HD := Aside0.mk (below_step HD.out hb)
             clear hu hb
             have BN := blk_below (g := gb693) (o := .cells #[.slice Ax x694000_1.length cx, .slice A0_1 l0_1.length c0_1, .int .i64 a0_2, .slice Ay x694003_2.length cy] 26 (0, 0)) BX.out HD.out
             have BM := blk_below (g := gb690) (o := .cells #[.slice A0_0 l0_0.length c0_0, .slice A0_1 l0_1.length c0_1, .int .i64 a0_2, .slice A0_3 l0_3.length c0_3] 26 (0, 0)) B3.out HD.out
             refine hK.out _ _ ⟨(blk_cell BN 0).trans rfl, (blk_cell BN 1).trans rfl, (blk_cell BN 2).trans rfl, (blk_cell BN 3).trans rfl, (blk_cell BM 3).trans rfl⟩ (fun hHeld => ?_)
             clear hK K BN BM
             refine norm_ (a' := ?_) ?_ ?_
             rotate_left
             ·show Act.put _ (some 237) _ = _
              simp only [Act.put, List.setIfInBounds_toArray, List.set_cons_zero, List.set_cons_succ, i64_w, i32_w]
              rfl
             refine two_ (i := 8) (j := 12) (Ni := some 244) (Nj := some 28) #[true, true, true, true, true, true, true, true, true, false, false, false, false, false, false] #[true, true, true, true, true, true, true, true, false, false, false, false, true, false, false] rfl rfl rfl rfl (two_of HT_.out (by kernel_rfl)) (by decide) (by decide) (fun K hK => ?_) (fun K hK => ?_)
             ·skip
              refine goes_ Try.func32 (by kernel_rfl) rfl #[u, .int .i64 (Int.tmod a2 (l0_3.length : Int))] (by rfl) rfl rfl (by simp only [List.map_toArray, List.map_cons, List.map_nil]; rfl) ?_
              with_reducible refine (HT2.out HU.out).mono ?_
              rintro e wA ⟨rfl, hb⟩
              refine ⟨_, rfl, ?_⟩
              (try replace BG := Aside0.mk (blk_below (g := gT) (o := .cells #[.int .i64 0, .int .i64 0] 46 (0, 0)) BG.out hb))
              replace HD := Aside0.mk (below_step HD.out hb)
              clear hb HU
              have BN := blk_below (g := gb693) (o := .cells #[.slice Ax x694000_1.length cx, .slice A0_1 l0_1.length c0_1, .int .i64 a0_2, .slice Ay x694003_2.length cy] 26 (0, 0)) BX.out HD.out
              have BM := blk_below (g := gb690) (o := .cells #[.slice A0_0 l0_0.length c0_0, .slice A0_1 l0_1.length c0_1, .int .i64 a0_2, .slice A0_3 l0_3.length c0_3] 26 (0, 0)) B3.out HD.out
              refine hK.out _ _ ⟨(blk_cell BN 0).trans rfl, (blk_cell BN 1).trans rfl, (blk_cell BN 2).trans rfl, (blk_cell BN 3).trans rfl, (blk_cell BM 3).trans rfl⟩ (fun hHeld => ?_)
              clear hK K BN BM
              refine norm_ (a' := ?_) ?_ ?_
              rotate_left
              ·show Act.put _ (some 244) _ = _
               simp only [Act.put, List.setIfInBounds_toArray, List.set_cons_zero, List.set_cons_succ, i64_w, i32_w]
               rfl
              refine pure_ (i := 9) (N := some 235) (v := ?_) (a' := ?_) #[true, true, true, true, true, true, true, true, true, true, false, false, false, false, false] rfl rfl (any_of HT_.out (by kernel_rfl)) (fun _ _ _ h => h) (Or.inl ⟨by rfl, ?_⟩) ?_ ?_
              rotate_left
              ·intro w'
               go_simp
               with_reducible rfl
              rotate_left
              ·simp only [Act.put, List.setIfInBounds_toArray, List.set_cons_zero, List.set_cons_succ, i64_w, i32_w]
               rfl
              refine pure_ (i := 10) (N := some 245) (v := ?_) (a' := ?_) #[true, true, true, true, true, true, true, true, true, true, true, false, false, false, false] rfl rfl (any_of HT_.out (by kernel_rfl)) (fun _ _ _ h => h) (Or.inl ⟨by rfl, ?_⟩) ?_ ?_
              rotate_left
              ·intro w'
               go_simp
               with_reducible rfl
              rotate_left
              ·simp only [Act.put, List.setIfInBounds_toArray, List.set_cons_zero, List.set_cons_succ, i64_w, i32_w]
               rfl
              refine pure_ (i := 11) (N := some 246) (v := ?_) (a' := ?_) #[true, true, true, true, true, true, true, true, true, true, true, true, false, false, false] rfl rfl (any_of HT_.out (by kernel_rfl)) (fun _ _ _ h => h) (Or.inl ⟨by rfl, ?_⟩) ?_ ?_
              rotate_left
              ·intro w'
               go_simp
               with_reducible rfl
              rotate_left
              ·simp only [Act.put, List.setIfInBounds_toArray, List.set_cons_zero, List.set_cons_succ, i64_w, i32_w]
               rfl
              refine one_ (i := 12) (N := some 28) #[true, true, true, true, true, true, true, true, true, true, true, true, true, false, false] rfl rfl (one_of HT_.out (by kernel_rfl)) (by decide) (fun K hK => ?_)
              refine box_step ?hg (N := 28) ?hd (cs := #[.int .i64 0, .int .i64 0]) (t := 46) ?hr ?_; (case hd => rfl); (case hg => rfl); (case hr => first | (go_simp; done) | (go_simp; rfl))
              intro gT hg wC hbox hb
              have BG := Aside0.mk hbox
              have HG := Aside0.mk ((by rw [hg]; exact below_size HD.out) : w_37.heap.size ≤ gT)
              (try replace HU := Aside0.mk (HU.out.below hb))
              replace HD := Aside0.mk (below_step HD.out hb)
              clear hb hbox hg
              have BN := blk_below (g := gb693) (o := .cells #[.slice Ax x694000_1.length cx, .slice A0_1 l0_1.length c0_1, .int .i64 a0_2, .slice Ay x694003_2.length cy] 26 (0, 0)) BX.out HD.out
              have BM := blk_below (g := gb690) (o := .cells #[.slice A0_0 l0_0.length c0_0, .slice A0_1 l0_1.length c0_1, .int .i64 a0_2, .slice A0_3 l0_3.length c0_3] 26 (0, 0)) B3.out HD.out
              refine hK.out _ _ ⟨(blk_cell BN 0).trans rfl, (blk_cell BN 1).trans rfl, (blk_cell BN 2).trans rfl, (blk_cell BN 3).trans rfl, (blk_cell BM 3).trans rfl⟩ (fun hHeld => ?_)
              clear hK K BN BM
              refine norm_ (a' := ?_) ?_ ?_
              rotate_left
              ·show Act.put _ (some 28) _ = _
               simp only [Act.put, List.setIfInBounds_toArray, List.set_cons_zero, List.set_cons_succ, i64_w, i32_w]
               rfl
              exact norm_ (by simp only [putAll, Act.put, List.setIfInBounds_toArray, List.set_cons_zero, List.set_cons_succ]) (hCont (u, gT) _ ⟨hHeld, BG.out, HG.out, HD.out⟩)
             ·skip
              refine box_step ?hg (N := 28) ?hd (cs := #[.int .i64 0, .int .i64 0]) (t := 46) ?hr ?_; (case hd => rfl); (case hg => rfl); (case hr => first | (go_simp; done) | (go_simp; rfl))
              intro gT hg wC hbox hb
              have BG := Aside0.mk hbox
              have HG := Aside0.mk ((by rw [hg]; exact below_size HD.out) : w_37.heap.size ≤ gT)
              (try replace HU := Aside0.mk (HU.out.below hb))
              replace HD := Aside0.mk (below_step HD.out hb)
              clear hb hbox hg
              have BN := blk_below (g := gb693) (o := .cells #[.slice Ax x694000_1.length cx, .slice A0_1 l0_1.length c0_1, .int .i64 a0_2, .slice Ay x694003_2.length cy] 26 (0, 0)) BX.out HD.out
              have BM := blk_below (g := gb690) (o := .cells #[.slice A0_0 l0_0.length c0_0, .slice A0_1 l0_1.length c0_1, .int .i64 a0_2, .slice A0_3 l0_3.length c0_3] 26 (0, 0)) B3.out HD.out
              refine hK.out _ _ ⟨(blk_cell BN 0).trans rfl, (blk_cell BN 1).trans rfl, (blk_cell BN 2).trans rfl, (blk_cell BN 3).trans rfl, (blk_cell BM 3).trans rfl⟩ (fun hHeld => ?_)
              clear hK K BN BM
              refine norm_ (a' := ?_) ?_ ?_
              rotate_left
              ·show Act.put _ (some 28) _ = _
               simp only [Act.put, List.setIfInBounds_toArray, List.set_cons_zero, List.set_cons_succ, i64_w, i32_w]
               rfl
              refine one_ (i := 8) (N := some 244) #[true, true, true, true, true, true, true, true, true, false, false, false, true, false, false] rfl rfl (one_of HT_.out (by kernel_rfl)) (by decide) (fun K hK => ?_)
              refine goes_ Try.func32 (by kernel_rfl) rfl #[u, .int .i64 (Int.tmod a2 (l0_3.length : Int))] (by rfl) rfl rfl (by simp only [List.map_toArray, List.map_cons, List.map_nil]; rfl) ?_
              with_reducible refine (HT2.out HU.out).mono ?_
              rintro e wA ⟨rfl, hb⟩
              refine ⟨_, rfl, ?_⟩
              (try replace BG := Aside0.mk (blk_below (g := gT) (o := .cells #[.int .i64 0, .int .i64 0] 46 (0, 0)) BG.out hb))
              replace HD := Aside0.mk (below_step HD.out hb)
              clear hb HU
              have BN := blk_below (g := gb693) (o := .cells #[.slice Ax x694000_1.length cx, .slice A0_1 l0_1.length c0_1, .int .i64 a0_2, .slice Ay x694003_2.length cy] 26 (0, 0)) BX.out HD.out
              have BM := blk_below (g := gb690) (o := .cells #[.slice A0_0 l0_0.length c0_0, .slice A0_1 l0_1.length c0_1, .int .i64 a0_2, .slice A0_3 l0_3.length c0_3] 26 (0, 0)) B3.out HD.out
              refine hK.out _ _ ⟨(blk_cell BN 0).trans rfl, (blk_cell BN 1).trans rfl, (blk_cell BN 2).trans rfl, (blk_cell BN 3).trans rfl, (blk_cell BM 3).trans rfl⟩ (fun hHeld => ?_)
              clear hK K BN BM
              refine norm_ (a' := ?_) ?_ ?_
              rotate_left
              ·show Act.put _ (some 244) _ = _
               simp only [Act.put, List.setIfInBounds_toArray, List.set_cons_zero, List.set_cons_succ, i64_w, i32_w]
               rfl
              refine pure_ (i := 9) (N := some 235) (v := ?_) (a' := ?_) #[true, true, true, true, true, true, true, true, true, true, false, false, true, false, false] rfl rfl (any_of HT_.out (by kernel_rfl)) (fun _ _ _ h => h) (Or.inl ⟨by rfl, ?_⟩) ?_ ?_
              rotate_left
              ·intro w'
               go_simp
               with_reducible rfl
              rotate_left
              ·simp only [Act.put, List.setIfInBounds_toArray, List.set_cons_zero, List.set_cons_succ, i64_w, i32_w]
               rfl
              refine pure_ (i := 10) (N := some 245) (v := ?_) (a' := ?_) #[true, true, true, true, true, true, true, true, true, true, true, false, true, false, false] rfl rfl (any_of HT_.out (by kernel_rfl)) (fun _ _ _ h => h) (Or.inl ⟨by rfl, ?_⟩) ?_ ?_
              rotate_left
              ·intro w'
               go_simp
               with_reducible rfl
              rotate_left
              ·simp only [Act.put, List.setIfInBounds_toArray, List.set_cons_zero, List.set_cons_succ, i64_w, i32_w]
               rfl
              refine pure_ (i := 11) (N := some 246) (v := ?_) (a' := ?_) #[true, true, true, true, true, true, true, true, true, true, true, true, true, false, false] rfl rfl (any_of HT_.out (by kernel_rfl)) (fun _ _ _ h => h) (Or.inl ⟨by rfl, ?_⟩) ?_ ?_
              rotate_left
              ·intro w'
               go_simp
               with_reducible rfl
              rotate_left
              ·simp only [Act.put, List.setIfInBounds_toArray, List.set_cons_zero, List.set_cons_succ, i64_w, i32_w]
               rfl
              exact norm_ (by simp only [putAll, Act.put, List.setIfInBounds_toArray, List.set_cons_zero, List.set_cons_succ]) (hCont (u, gT) _ ⟨hHeld, BG.out, HG.out, HD.out⟩)
            ·skip
             refine box_step ?hg (N := 28) ?hd (cs := #[.int .i64 0, .int .i64 0]) (t := 46) ?hr ?_; (case hd => rfl); (case hg => rfl); (case hr => first | (go_simp; done) | (go_simp; rfl))
             intro gT hg wC hbox hb
             have BG := Aside0.mk hbox
             have HG := Aside0.mk ((by rw [hg]; exact below_size HD.out) : w_37.heap.size ≤ gT)
             (try replace HU := Aside0.mk (HU.out.below hb))
             replace HD := Aside0.mk (below_step HD.out hb)
             clear hb hbox hg
             have BN := blk_below (g := gb693) (o := .cells #[.slice Ax x694000_1.length cx, .slice A0_1 l0_1.length c0_1, .int .i64 a0_2, .slice Ay x694003_2.length cy] 26 (0, 0)) BX.out HD.out
             have BM := blk_below (g := gb690) (o := .cells #[.slice A0_0 l0_0.length c0_0, .slice A0_1 l0_1.length c0_1, .int .i64 a0_2, .slice A0_3 l0_3.length c0_3] 26 (0, 0)) B3.out HD.out
             refine hK.out _ _ ⟨(blk_cell BN 0).trans rfl, (blk_cell BN 1).trans rfl, (blk_cell BN 2).trans rfl, (blk_cell BN 3).trans rfl, (blk_cell BM 3).trans rfl⟩ (fun hHeld => ?_)
             clear hK K BN BM
             refine norm_ (a' := ?_) ?_ ?_
             rotate_left
             ·show Act.put _ (some 28) _ = _
              simp only [Act.put, List.setIfInBounds_toArray, List.set_cons_zero, List.set_cons_succ, i64_w, i32_w]
              rfl
             refine one_ (i := 1) (N := some 237) #[true, true, true, true, true, true, true, true, false, false, false, false, true, false, false] rfl rfl (one_of HT_.out (by kernel_rfl)) (by decide) (fun K hK => ?_)
             refine goes_ Try.func20 (by kernel_rfl) rfl #[.agg #[.slice Ax x694000_1.length cx, .slice A0_1 l0_1.length c0_1, .int .i64 a0_2, .slice Ay x694003_2.length cy]] (by rfl) rfl rfl (by simp only [List.map_toArray, List.map_cons, List.map_nil]; rfl) ?_
             with_reducible refine (round_at (HX.out.below HD.out) HThX.out).mono ?_
             rintro e wA ⟨u, rfl, hu, hb⟩
             refine ⟨_, rfl, ?_⟩
             have HU := Aside0.mk hu
             (try replace BG := Aside0.mk (blk_below (g := gT) (o := .cells #[.int .i64 0, .int .i64 0] 46 (0, 0)) BG.out hb))
             replace HD := Aside0.mk (below_step HD.out hb)
             clear hu hb
             have BN := blk_below (g := gb693) (o := .cells #[.slice Ax x694000_1.length cx, .slice A0_1 l0_1.length c0_1, .int .i64 a0_2, .slice Ay x694003_2.length cy] 26 (0, 0)) BX.out HD.out
             have BM := blk_below (g := gb690) (o := .cells #[.slice A0_0 l0_0.length c0_0, .slice A0_1 l0_1.length c0_1, .int .i64 a0_2, .slice A0_3 l0_3.length c0_3] 26 (0, 0)) B3.out HD.out
             refine hK.out _ _ ⟨(blk_cell BN 0).trans rfl, (blk_cell BN 1).trans rfl, (blk_cell BN 2).trans rfl, (blk_cell BN 3).trans rfl, (blk_cell BM 3).trans rfl⟩ (fun hHeld => ?_)
             clear hK K BN BM
             refine norm_ (a' := ?_) ?_ ?_
             rotate_left
             ·show Act.put _ (some 237) _ = _
              simp only [Act.put, List.setIfInBounds_toArray, List.set_cons_zero, List.set_cons_succ, i64_w, i32_w]
              rfl
             refine one_ (i := 8) (N := some 244) #[true, true, true, true, true, true, true, true, true, false, false, false, true, false, false] rfl rfl (one_of HT_.out (by kernel_rfl)) (by decide) (fun K hK => ?_)
             refine goes_ Try.func32 (by kernel_rfl) rfl #[u, .int .i64 (Int.tmod a2 (l0_3.length : Int))] (by rfl) rfl rfl (by simp only [List.map_toArray, List.map_cons, List.map_nil]; rfl) ?_
             with_reducible refine (HT2.out HU.out).mono ?_
             rintro e wA ⟨rfl, hb⟩
             refine ⟨_, rfl, ?_⟩
             (try replace BG := Aside0.mk (blk_below (g := gT) (o := .cells #[.int .i64 0, .int .i64 0] 46 (0, 0)) BG.out hb))
             replace HD := Aside0.mk (below_step HD.out hb)
             clear hb HU
             have BN := blk_below (g := gb693) (o := .cells #[.slice Ax x694000_1.length cx, .slice A0_1 l0_1.length c0_1, .int .i64 a0_2, .slice Ay x694003_2.length cy] 26 (0, 0)) BX.out HD.out
             have BM := blk_below (g := gb690) (o := .cells #[.slice A0_0 l0_0.length c0_0, .slice A0_1 l0_1.length c0_1, .int .i64 a0_2, .slice A0_3 l0_3.length c0_3] 26 (0, 0)) B3.out HD.out
             refine hK.out _ _ ⟨(blk_cell BN 0).trans rfl, (blk_cell BN 1).trans rfl, (blk_cell BN 2).trans rfl, (blk_cell BN 3).trans rfl, (blk_cell BM 3).trans rfl⟩ (fun hHeld => ?_)
             clear hK K BN BM
             refine norm_ (a' := ?_) ?_ ?_
             rotate_left
             ·show Act.put _ (some 244) _ = _
              simp only [Act.put, List.setIfInBounds_toArray, List.set_cons_zero, List.set_cons_succ, i64_w, i32_w]
              rfl
             refine pure_ (i := 9) (N := some 235) (v := ?_) (a' := ?_) #[true, true, true, true, true, true, true, true, true, true, false, false, true, false, false] rfl rfl (any_of HT_.out (by kernel_rfl)) (fun _ _ _ h => h) (Or.inl ⟨by rfl, ?_⟩) ?_ ?_
             rotate_left
             ·intro w'
              go_simp
              with_reducible rfl
             rotate_left
             ·simp only [Act.put, List.setIfInBounds_toArray, List.set_cons_zero, List.set_cons_succ, i64_w, i32_w]
              rfl
             refine pure_ (i := 10) (N := some 245) (v := ?_) (a' := ?_) #[true, true, true, true, true, true, true, true, true, true, true, false, true, false, false] rfl rfl (any_of HT_.out (by kernel_rfl)) (fun _ _ _ h => h) (Or.inl ⟨by rfl, ?_⟩) ?_ ?_
             rotate_left
             ·intro w'
              go_simp
              with_reducible rfl
             rotate_left
             ·simp only [Act.put, List.setIfInBounds_toArray, List.set_cons_zero, List.set_cons_succ, i64_w, i32_w]
              rfl
             refine pure_ (i := 11) (N := some 246) (v := ?_) (a' := ?_) #[true, true, true, true, true, true, true, true, true, true, true, true, true, false, false] rfl rfl (any_of HT_.out (by kernel_rfl)) (fun _ _ _ h => h) (Or.inl ⟨by rfl, ?_⟩) ?_ ?_
             rotate_left
             ·intro w'
              go_simp
              with_reducible rfl
             rotate_left
             ·simp only [Act.put, List.setIfInBounds_toArray, List.set_cons_zero, List.set_cons_succ, i64_w, i32_w]
              rfl
             exact norm_ (by simp only [putAll, Act.put, List.setIfInBounds_toArray, List.set_cons_zero, List.set_cons_succ]) (hCont (u, gT) _ ⟨hHeld, BG.out, HG.out, HD.out⟩)
           clear HD hHeld
           rintro ⟨u, gT⟩ w6 ⟨hHeld, hBG, hle, hD⟩
           refine norm_ (a' := ?_) ?_ ?_
           rotate_left
           ·simp only [putAll, Act.put, List.setIfInBounds_toArray, List.set_cons_zero, List.set_cons_succ]
            rfl
           refine one_ (i := 13) (N := none) #[true, true, true, true, true, true, true, true, true, true, true, true, true, true, false] rfl rfl (one_of HT_.out (by kernel_rfl)) (by decide) (fun K hK => ?_)
           have hs0 : w6.cell? ⟨gT, 0, none⟩ = some (.int .i64 0) := (blk_cell hBG 0).trans rfl
           have hs1 : w6.cell? ⟨gT, 1, none⟩ = some (.int .i64 0) := (blk_cell hBG 1).trans rfl
           have hf0 := blk_frozen hBG 0
           have hf1 := blk_frozen hBG 1
           have BG := Aside0.mk hBG
           have HD := Aside0.mk hD
           have ltS := blk_lt BX.out
           have hne : gb693 ≠ gT := by omega
           have ltS2 := blk_lt B3.out
           have hne2 : gb690 ≠ gT := by omega
           clear hBG hD
           refine skip_ (w1 := ?_) (by rfl) rfl ?_ ?_
           rotate_left
           ·go_simp
            rfl
           refine hK.out _ _ ⟨((cell_far (p := ⟨gT, _, none⟩) hne _).trans ((cell_far (p := ⟨gT, _, none⟩) hne _).trans (hHeld.1))), ((cell_far (p := ⟨gT, _, none⟩) hne _).trans ((cell_far (p := ⟨gT, _, none⟩) hne _).trans (hHeld.2.1))), ((cell_far (p := ⟨gT, _, none⟩) hne _).trans ((cell_far (p := ⟨gT, _, none⟩) hne _).trans (hHeld.2.2.1))), ((cell_far (p := ⟨gT, _, none⟩) hne _).trans ((cell_far (p := ⟨gT, _, none⟩) hne _).trans (hHeld.2.2.2.1))), ((cell_far (p := ⟨gT, _, none⟩) hne2 _).trans ((cell_far (p := ⟨gT, _, none⟩) hne2 _).trans (hHeld.2.2.2.2)))⟩ (fun hHeld => ?_)
           clear hK K hs0 hs1 hf0 hf1 hne ltS hne2 ltS2
           refine pure_ (i := 14) (N := some 29) (v := ?_) (a' := ?_) #[true, true, true, true, true, true, true, true, true, true, true, true, true, true, true] rfl rfl (any_of HT_.out (by kernel_rfl)) (fun _ _ _ h => h) (Or.inl ⟨by rfl, ?_⟩) ?_ ?_
           rotate_left
           ·intro w'
            go_simp
            with_reducible rfl
           rotate_left
           ·simp only [Act.put, List.setIfInBounds_toArray, List.set_cons_zero, List.set_cons_succ, i64_w, i32_w]
            rfl
           refine done_ (done_of HT_.out (by kernel_rfl)) ?_
           clear hHeld
           go_upto_region 39 with fail
           have HD2 : Below w_37.heap.size w_37 ((w6.setCell ⟨gT, 0, none⟩ (.int .i64 t0)).setCell ⟨gT, 1, none⟩ (.int .i64 t1)) := below_set (below_set HD.out hle) hle
           have BT : Aside0 (((w6.setCell ⟨gT, 0, none⟩ (.int .i64 t0)).setCell ⟨gT, 1, none⟩ (.int .i64 t1)).heap[gT]? = some (.cells #[.int .i64 t0, .int .i64 t1] 46 (0, 0))) := ⟨put2 BG.out _ _⟩
           replace B3 := Aside0.mk (blk_below (g := gb690) (o := .cells #[.slice A0_0 l0_0.length c0_0, .slice A0_1 l0_1.length c0_1, .int .i64 a0_2, .slice A0_3 l0_3.length c0_3] 26 (0, 0)) B3.out HD2)
           replace BX := Aside0.mk (blk_below (g := gb693) (o := .cells #[.slice Ax x694000_1.length cx, .slice A0_1 l0_1.length c0_1, .int .i64 a0_2, .slice Ay x694003_2.length cy] 26 (0, 0)) BX.out HD2)
           replace BS := Aside0.mk (blk_below (g := gS) (o := .cells #[.int .i64 t0, .int .i64 t1] 46 (0, 0)) BS.out HD2)
           replace HB := Aside0.mk (below_step HB.out HD2)
           replace HX := Aside0.mk (HX.out.below HD2)
           clear HD HD2 BG hle
           generalize ((w6.setCell ⟨gT, 0, none⟩ (.int .i64 t0)).setCell ⟨gT, 1, none⟩ (.int .i64 t1)) = w_38 at HB HX BT B3 BX BS ⊢
           have lt_BS := blk_lt BS.out
           have lt_BT := blk_lt BT.out
           obtain ⟨q0, q1⟩ := cells2 BS.out
           obtain ⟨r0, r1⟩ := cells2 BT.out
           go_wp2_with (first | (go_at_call 18; (with_reducible refine (wakes_any _).mono ?_); rintro e w13 ⟨rfl, hb⟩; replace HB := Aside0.mk (below_step (by repeat (first | (with_reducible exact HB.out) | apply below_alloc | apply pw_below_drewN | apply below_drew1 | refine below_set ?_ (by omega))) hb); clear hb))
           go_ret
           exact ⟨rfl, HB.out⟩
       ·have hz2 : (ck != 0) = true := bne_iff_ne.2 hz
        clear hz hck
        go_wp2_with (first | (go_at_call 18; (with_reducible refine (wakes_any _).mono ?_); rintro e w13 ⟨rfl, hb⟩; replace HB := Aside0.mk (below_step (by repeat (first | (with_reducible exact HB.out) | apply below_alloc | apply pw_below_drewN | apply below_drew1 | refine below_set ?_ (by omega))) hb); clear hb))
        go_ret
        exact ⟨rfl, HB.out⟩
end Go.Proofs.Ytcpbhklaffgokaa.Q
namespace Go.Proofs.Ytcpbhklaffgokaa.Q
open Go.RowKit Go.Proofs.YtcpbhklaffgokaaW.PrintWords Go.Proofs.YtcpbhklaffgokaaW.PrintLast Go.Proofs.YtcpbhklaffgokaaW.PrintMore
set_option linter.unusedVariables false
set_option linter.unusedSimpArgs false
section
variable {lots : List S44} {samples : List Int} {spread : Int} {labs : List S62} {n : Int}
theorem take_snoc {α β : Type} (f : α → β) (xs : List α) (i : Nat) (x : α) (h : xs[i]? = some x) : (xs.take i).map f ++ [f x] = (xs.take (i + 1)).map f := by
 rw [List.take_add_one, h, List.map_append]
 rfl
theorem built_labs (hok : RoundOk (lots.map m46) samples spread (labs.map m75)) (h0 : 0 ≤ n) (h1 : n < 500) (a1 a2 : Int) (lr : List S44) (ls2 : List Int) (sp2 : Int) : ∀ d i : Nat, labs.length - i = d → i ≤ labs.length →
  Ev (fun k => tensilelaw08_RoundMoved.l1 k a1 a2 n (i : Int) lots samples spread labs lr ls2 sp2 ((labs.take i).map (movL n))) (lr, labs.map (movL n)) := by
 have h6 : labs.length ≤ 6 := by have := hok.b6; rwa [List.length_map] at this
 have h8 := hok.s8
 intro d
 induction d with
 | zero =>
  intro i hd hi
  obtain rfl : i = labs.length := by omega
  exact Ev.step (fun k => by simp only [tensilelaw08_RoundMoved.l1]; rw [if_neg (by omega), List.take_length]) (Ev.now _)
 | succ d ih =>
  intro i hd hi
  have hlt : i < labs.length := by omega
  have hx : rd_T62 labs (i : Int) = labs.getD i z62 := by unfold rd_T62; rw [Int.toNat_natCast]
  have hget : labs[i]? = some (rd_T62 labs (i : Int)) := by
   rw [hx, List.getD_eq_getElem?_getD, List.getElem?_eq_getElem hlt]
   rfl
  have hl : (rd_T62 labs (i : Int)).f1.length = samples.length := by
   obtain ⟨a, b, c, -⟩ := hok.labs _ (List.mem_map_of_mem (mem_drop0 (rd62_drop labs i hlt)))
   exact c
  have hb : ∀ j, j < samples.length → -1 ≤ rd (rd_T62 labs (i : Int)).f1 (j : Int) ∧ rd (rd_T62 labs (i : Int)).f1 (j : Int) ≤ 1000 := fun j hj => by
   obtain ⟨a, b, c, d, e⟩ := lab_at hok i hlt j hj
   rw [hx, rd_eq]
   exact ⟨d, e⟩
  have inner : ∀ e j : Nat, samples.length - j = e → j ≤ samples.length →
    Ev (fun k => tensilelaw08_RoundMoved.l2 k a1 a2 n (i : Int) (j : Int) lots samples spread labs lr ls2 sp2 ((labs.take i).map (movL n)) (rd_T62 labs (i : Int)).f0 (((rd_T62 labs (i : Int)).f1.take j).map (movI n))) (lr, labs.map (movL n)) := by
   intro e
   induction e with
   | zero =>
    intro j he hj
    obtain rfl : j = samples.length := by omega
    have h := ih (i + 1) (by omega) (by omega)
    rw [← take_snoc (movL n) labs i _ hget, ← wr1 i _ hlt (by omega)] at h
    refine Ev.step (fun k => by simp only [tensilelaw08_RoundMoved.l2]; rw [if_pos (by omega), if_pos (by omega), if_neg (by omega), if_pos (by rw [List.length_map, List.length_take]; omega)]) ?_
    rw [List.take_of_length_le (Nat.le_of_eq hl)]
    exact h
   | succ e ih2 =>
    intro j he hj
    have hjl : j < samples.length := by omega
    obtain ⟨b0, b1⟩ := hb j hjl
    have h := ih2 (j + 1) (by omega) (by omega)
    have hg : (rd_T62 labs (i : Int)).f1[j]? = some (rd (rd_T62 labs (i : Int)).f1 (j : Int)) := by
     rw [rd_eq, List.getD_eq_getElem?_getD, List.getElem?_eq_getElem (by omega)]
     rfl
    rw [← take_snoc (movI n) _ j _ hg, ← wr1 j _ hjl (by omega)] at h
    by_cases hp : rd (rd_T62 labs (i : Int)).f1 (j : Int) ≥ 0
    ·refine Ev.step (fun k => by simp only [tensilelaw08_RoundMoved.l2]; rw [if_pos (by omega), if_pos (by omega), if_pos (by omega), if_pos (by omega), if_pos hp, if_pos (by rw [List.length_map, List.length_take]; omega), wr (rd (rd_T62 labs (i : Int)).f1 (j : Int) + n) (by omega) (by omega)]) ?_
     unfold movI at h
     rw [if_pos hp] at h
     exact h
    ·refine Ev.step (fun k => by simp only [tensilelaw08_RoundMoved.l2]; rw [if_pos (by omega), if_pos (by omega), if_pos (by omega), if_pos (by omega), if_neg hp, if_pos (by rw [List.length_map, List.length_take]; omega)]) ?_
     have e1 : movI n (rd (rd_T62 labs (i : Int)).f1 (j : Int)) = rd (rd_T62 labs (i : Int)).f1 (j : Int) := by unfold movI; rw [if_neg hp]
     rw [e1] at h
     exact h
  refine Ev.step (fun k => by simp only [tensilelaw08_RoundMoved.l1]; rw [if_pos (by omega), if_pos (by omega)]) ?_
  exact inner samples.length 0 (by omega) (by omega)
theorem built (hok : RoundOk (lots.map m46) samples spread (labs.map m75)) (h0 : 0 ≤ n) (h1 : n < 500) (a1 a2 : Int) : ∀ d i : Nat, lots.length - i = d → i ≤ lots.length →
  Ev (fun k => tensilelaw08_RoundMoved.l0 k a1 a2 n (i : Int) lots samples spread labs ((lots.take i).map (movT n)) samples spread) (lots.map (movT n), labs.map (movL n)) := by
 have h4 : lots.length ≤ 4 := by have := hok.l4; rwa [List.length_map] at this
 intro d
 induction d with
 | zero =>
  intro i hd hi
  obtain rfl : i = lots.length := by omega
  refine Ev.step (fun k => by simp only [tensilelaw08_RoundMoved.l0]; rw [if_neg (by omega), List.take_length]) ?_
  exact built_labs hok h0 h1 a1 a2 _ _ _ labs.length 0 (by omega) (by omega)
 | succ d ih =>
  intro i hd hi
  have hlt : i < lots.length := by omega
  have hl := lot_ok lots samples spread labs hok i hlt
  have hget : lots[i]? = some (rd_T44 lots (i : Int)) := by
   unfold rd_T44
   rw [Int.toNat_natCast, List.getD_eq_getElem?_getD, List.getElem?_eq_getElem hlt]
   rfl
  have h := ih (i + 1) (by omega) (by omega)
  rw [← take_snoc (movT n) lots i _ hget, ← wr1 i _ hlt (by omega)] at h
  refine Ev.step (fun k => by simp only [tensilelaw08_RoundMoved.l0]; rw [if_pos (by omega), if_pos (by omega), if_pos (by rw [List.length_map, List.length_take]; omega), wr ((rd_T44 lots (i : Int)).f0 + n) (by omega) (by omega), wr ((rd_T44 lots (i : Int)).f1 + n) (by omega) (by omega)]) ?_
  exact h
end
theorem span_bd {lots : List S44} {samples : List Int} {spread : Int} {labs : List S62} (hok : RoundOk (lots.map m46) samples spread (labs.map m75)) (o : Nat → Bool) (h : canF (lots.map m46) samples spread (labs.map m75) o = true) (i : Nat) (hi : i < samples.length) :
  -1000 ≤ ((spansF (lots.map m46) samples spread (labs.map m75) o (-1) 0).1.getD i z46).f0 ∧ ((spansF (lots.map m46) samples spread (labs.map m75) o (-1) 0).1.getD i z46).f1 ≤ 2000 ∧ ((spansF (lots.map m46) samples spread (labs.map m75) o (-1) 0).1.getD i z46).f0 ≤ ((spansF (lots.map m46) samples spread (labs.map m75) o (-1) 0).1.getD i z46).f1 := by
 have hs := hok.sp0
 have hs1 := hok.sp1
 obtain ⟨s0, s1⟩ := smp_lt hok i hi
 rw [List.length_map] at s1
 obtain ⟨v, hv⟩ := spans_some hok o (-1) 0 h i hi
 have key : ∀ v, inR v ((spansF (lots.map m46) samples spread (labs.map m75) o (-1) 0).1.getD i z46) → -1000 ≤ v ∧ v ≤ 2000 := fun v hv => by
  obtain ⟨-, u, hu, -, p, q⟩ := (spans_iff hok o (-1) 0 h i hi v).1 hv
  have := lot_bd hok _ s1 u hu
  omega
 generalize (spansF (lots.map m46) samples spread (labs.map m75) o (-1) 0).1.getD i z46 = s at key hv ⊢
 unfold inR at key hv
 have k0 := key s.f0 ⟨by omega, by omega⟩
 have k1 := key s.f1 ⟨by omega, by omega⟩
 omega
theorem RoundMoved_walk (A0 : Option Addr) (c0 : Nat) (lots : List S44) (A1 : Option Addr) (c1 : Nat) (samples : List Int) (spread : Int) (A3 : Option Addr) (c3 : Nat) (labs : List S62) (bits lab by_ : Int) (W : World) {v : Value} (hi : In26 W v A0 c0 lots A1 c1 samples spread A3 c3 labs)
  (wb : (Lit.int .u8 bits).wf = true) (wl : (Lit.int .u8 lab).wf = true) (wy : (Lit.int .u16 by_).wf = true) :
  Calls Try.prog 12 #[.agg #[.slice A0 lots.length c0, .slice A1 samples.length c1, .int .i64 spread, .slice A3 labs.length c3], .int .u8 bits, .int .u8 lab, .int .u16 by_] W fun e W' => e = .returned (.bool true) ∧ Below W.heap.size W W' := by
 obtain ⟨b, hb, ht⟩ := ready_ev lots samples spread labs hi.sz
 cases b with
 | false => exact moved_no hi bits lab by_ hb
 | true =>
  obtain ⟨hth, hok⟩ := ht rfl
  obtain ⟨l0, l1⟩ := u8_wf wl
  obtain ⟨y0, y1⟩ := u16_wf wy
  obtain ⟨kr, hkr⟩ := Ev_rounds hb
  have h6 : labs.length ≤ 6 := by have := hok.b6; rwa [List.length_map] at this
  have hn : Int.tmod (wrap64 by_) 500 = Int.tmod by_ 500 := by rw [wr by_ (by omega) (by omega)]
  have n0 := Int.tmod_nonneg 500 y0
  have n1 := Int.tmod_lt_of_pos by_ (show (0 : Int) < 500 by omega)
  generalize Int.tmod by_ 500 = n at hn n0 n1
  obtain ⟨k, hk⟩ := Ev_rounds (built hok n0 n1 bits lab lots.length 0 (by omega) (by omega))
  have hk' : tensilelaw08_RoundMoved.l0 k bits lab (Int.tmod (wrap64 by_) 500) 0 lots samples spread labs [] samples spread = some (lots.map (movT n), labs.map (movL n)) := by rw [hn]; exact hk
  have hthx : ThinR (lots.map (movT n)) samples (labs.map (movL n)) := by
   refine ⟨by rw [List.length_map]; exact hth.a, hth.b, by rw [List.length_map]; exact hth.c, fun x hx => ?_⟩
   obtain ⟨y, hy, rfl⟩ := List.mem_map.1 hx
   show (y.f1.map (movI n)).length ≤ 10
   rw [List.length_map]
   exact hth.d y hy
  refine moved_walk A0 c0 lots A1 c1 samples spread A3 c3 labs bits lab by_ W hi kr hkr hth h6 l0 l1 _ _ k hk' hthx n hn (fun hc => ?_)
  have hokX := roundOk_of_check hc
  have hr : risingB (labs.map m75).length (chosenF labs.length bits) = true := by rw [List.length_map]; exact chosenF_rising _ _
  have hrX : risingB ((labs.map (movL n)).map m75).length (chosenF labs.length bits) = true := by rw [List.length_map, List.length_map]; exact chosenF_rising _ _
  have hcan : canF ((lots.map (movT n)).map m46) samples spread ((labs.map (movL n)).map m75) (offOf (chosenF labs.length bits)) = canF (lots.map m46) samples spread (labs.map m75) (offOf (chosenF labs.length bits)) := mov_can hok hokX n0 n1 _ (-1) 0
  have he1 := explainsF_ok hok hr
  have he2 := explainsF_ok hokX hrX
  rw [hcan] at he2
  have hs1 := spansR_ok hok hr
  have hs2 := spansR_ok hokX hrX
  rw [hcan] at hs2
  have h8 := hok.s8
  have hsh := fun (h : 0 < labs.length) => (⟨(shiftsF (lots.map m46) samples spread (labs.map m75) (Int.tmod lab (labs.length : Int))).1.f0, (shiftsF (lots.map m46) samples spread (labs.map m75) (Int.tmod lab (labs.length : Int))).1.f1, (shiftsF (lots.map m46) samples spread (labs.map m75) (Int.tmod lab (labs.length : Int))).2, rfl, mov_shifts hok hokX n0 n1 _⟩ : ∃ t0 t1 eh, shiftsF (lots.map m46) samples spread (labs.map m75) (Int.tmod lab (labs.length : Int)) = (⟨t0, t1⟩, eh) ∧ shiftsF ((lots.map (movT n)).map m46) samples spread ((labs.map (movL n)).map m75) (Int.tmod lab (labs.length : Int)) = (⟨t0, t1⟩, eh))
  cases hcc : canF (lots.map m46) samples spread (labs.map m75) (offOf (chosenF labs.length bits)) with
  | false =>
   rw [hcc] at he1 he2 hs1 hs2
   rw [if_neg (by decide)] at hs1 hs2
   exact ⟨_, false, [], [], 9, rfl, Nat.le_trans (chosenF_length _ _) h6, he1, he2, hs1, hs2, Nat.le_refl _, Nat.le_refl _, Nat.zero_le _, fun i i0 i1 => absurd i1 (by simp; omega), hsh⟩
  | true =>
   have hccX := hcan.trans hcc
   rw [hcc] at he1 he2 hs1 hs2
   rw [if_pos rfl] at hs1 hs2
   have g1 := spans_length hok _ _ _ hcc
   have g2 := spans_length hokX _ _ _ hccX
   refine ⟨_, true, _, _, 0, rfl, Nat.le_trans (chosenF_length _ _) h6, he1, he2, hs1, hs2, Nat.le_of_eq (g1.trans g2.symm), Nat.le_of_eq (g2.trans g1.symm), by rw [g1]; exact h8, fun i i0 i1 => ?_, hsh⟩
   rw [g1] at i1
   obtain ⟨j, rfl⟩ : ∃ j : Nat, i = (j : Int) := ⟨i.toNat, by omega⟩
   obtain ⟨e0, e1⟩ := mov_span hok hokX n0 n1 _ hcc j (by omega)
   obtain ⟨b0, b1, b2⟩ := span_bd hok _ hcc j (by omega)
   refine ⟨e0, e1, IntWalk.i64_in _ ?_, IntWalk.i64_in _ ?_⟩
   all_goals (unfold rd_T46; rw [Int.toNat_natCast]; omega)
end Go.Proofs.Ytcpbhklaffgokaa.Q
