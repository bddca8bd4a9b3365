import Derived.IntWalk
import Derived.Test.YtcpbhklaffgokaaC8x11
namespace Go.Proofs.Ytcpbhklaffgokaa.Q
open Go.RowKit Go.Proofs.YtcpbhklaffgokaaW.PrintWords Go.Proofs.YtcpbhklaffgokaaW.PrintLast Go.Proofs.YtcpbhklaffgokaaW.PrintMore
set_option linter.unusedVariables false
set_option linter.unusedSimpArgs false
theorem word_any (A : Option Addr) (c : Nat) (words : List Int) (w : World) (hC : (Kd.int .u16).C w A words.length words) (hc : words.length ≤ c) (hw : WordsOk words) (at_ : Int) (h0 : 0 ≤ at_) :
  Calls Try.prog 61 #[.slice A words.length c, .int .i64 at_] w fun e w' => e = .returned (.int .i64 (wordF words at_)) ∧ ∃ n, w' = w.drewN n := by
 refine (tensilelaw08_word.calls A c words at_ _ w hC hc (word_eq hw at_ h0)).mono ?_
 rintro e w' ⟨rfl, ⟨n, rfl⟩⟩
 exact ⟨rfl, n, rfl⟩
section
variable (lots : List S44) (samples : List Int) (spread : Int) (labs : List S62) (words : List Int) (bits shift : Int)
def readM (k i : Nat) : Int :=
 if bitB bits (k : Int) = true then trueV lots samples spread words i - (rd_T62 labs (k : Int)).f0 + wordF words (5 * (k : Int) + (i : Int)) % (2 * (rd_T62 labs (k : Int)).f0 + 1) + shift
 else trueV lots samples spread words i - (rd_T62 labs (k : Int)).f0 + wordF words (5 * (k : Int) + (i : Int)) % (2 * (rd_T62 labs (k : Int)).f0 + 1)
def readN (k i : Nat) : Int := if rd (rd_T62 labs (k : Int)).f1 (i : Int) < 0 ∨ ¬ (0 ≤ readM lots samples spread labs words bits shift k i ∧ readM lots samples spread labs words bits shift k i ≤ 1000) then -1 else readM lots samples spread labs words bits shift k i
def readRow (k i : Nat) : List Int := (List.range i).map (readN lots samples spread labs words bits shift k)
def readF (k : Nat) : List S62 := (List.range k).map fun (k : Nat) => ⟨(rd_T62 labs (k : Int)).f0, readRow lots samples spread labs words bits shift k samples.length⟩
theorem readRow_snoc (k i : Nat) : readRow lots samples spread labs words bits shift k (i + 1) = readRow lots samples spread labs words bits shift k i ++ [readN lots samples spread labs words bits shift k i] := by unfold readRow; rw [List.range_succ, List.map_append]; rfl
theorem readRow_length (k i : Nat) : (readRow lots samples spread labs words bits shift k i).length = i := by unfold readRow; rw [List.length_map, List.length_range]
theorem readF_snoc (k : Nat) : readF lots samples spread labs words bits shift (k + 1) = readF lots samples spread labs words bits shift k ++ [⟨(rd_T62 labs (k : Int)).f0, readRow lots samples spread labs words bits shift k samples.length⟩] := by unfold readF; rw [List.range_succ, List.map_append]; rfl
theorem readF_length (k : Nat) : (readF lots samples spread labs words bits shift k).length = k := by unfold readF; rw [List.length_map, List.length_range]
end
theorem true_at {W : World} {v : Value} {A0 : Option Addr} {c0 : Nat} {lots : List S44} {A1 : Option Addr} {c1 : Nat} {samples : List Int} {spread : Int} {A3 : Option Addr} {c3 : Nat} {labs : List S62} (h : In26 W v A0 c0 lots A1 c1 samples spread A3 c3 labs) (hok : RoundOk (lots.map m46) samples spread (labs.map m75)) (Aw : Option Addr) (cw : Nat) (words : List Int) (hC : (Kd.int .u16).C W Aw words.length words) (hc : words.length ≤ cw) (hw : WordsOk words) :
  Calls Try.prog 41 #[.agg #[.slice A0 lots.length c0, .slice A1 samples.length c1, .int .i64 spread, .slice A3 labs.length c3], .slice Aw words.length cw] W (Gets W (fun w' u => InL w' u (trueF lots samples spread words))) := by
 obtain ⟨k, hk⟩ := Ev_rounds (True_ev hok hw)
 refine (tensilelaw08_True.calls k A0 c0 lots A1 c1 samples spread A3 c3 labs Aw cw words _ W h.r0 h.h0 h.r1 h.h1 h.r3 h.h3 hC hc hk).mono ?_
 rintro e w' ⟨u, rfl, hu, hb⟩
 exact ⟨u, rfl, InL.ofR hu, hb⟩
theorem put4 {w : World} {g : Nat} {t : TypeId} {a b c d : Value} (h : w.heap[g]? = some (.cells #[a, b, c, d] t (0, 0))) (u0 u1 u2 u3 : Value) : ((((w.setCell ⟨g, 0, none⟩ u0).setCell ⟨g, 1, none⟩ u1).setCell ⟨g, 2, none⟩ u2).setCell ⟨g, 3, none⟩ u3).heap[g]? = some (.cells #[u0, u1, u2, u3] t (0, 0)) :=
 blk_put (blk_put (blk_put (blk_put h 0 u0 rfl) 1 u1 rfl) 2 u2 rfl) 3 u3 rfl
theorem r4 {α : Type} {d : Kd α} {e : Nat} {w : World} {base g : Nat} {ok : Nat → Prop} {v : Value} {xs : List α} (h : d.R e w base ok v xs) (hg : g < base) (u0 u1 u2 u3 : Value) : d.R e ((((w.setCell ⟨g, 0, none⟩ u0).setCell ⟨g, 1, none⟩ u1).setCell ⟨g, 2, none⟩ u2).setCell ⟨g, 3, none⟩ u3) base ok v xs := by
 have H : ∀ {w : World} (i : Nat) (u : Value), d.R e w base (fun k => ok k ∧ base ≤ k) v xs → d.R e (w.setCell ⟨g, i, none⟩ u) base (fun k => ok k ∧ base ≤ k) v xs := fun i u h => Kd.R_far h (fun k hk => (by have := hk.2; dsimp only; omega)) u
 exact Kd.R_mono (H 3 u3 (H 2 u2 (H 1 u1 (H 0 u0 (Kd.R_mono (Kd.R_bound h) (fun k hk => ⟨hk.1, hk.2.1⟩)))))) (fun k hk => hk.1)
def ReadPost (w : World) (A0 : Option Addr) (c0 n0 : Nat) (A1 : Option Addr) (c1 n1 : Nat) (spread : Int) (L : List S62) (e : Ending) (w' : World) : Prop :=
 ∃ A c, e = .returned (.agg #[.slice A0 n0 c0, .slice A1 n1 c1, .int .i64 spread, .slice A L.length c]) ∧ Kd.C k62 w' A L.length L ∧ L.length ≤ c ∧ Below w.heap.size w w'
set_option maxHeartbeats 4000000 in
set_option maxRecDepth 100000 in
theorem read_any {W : World} {v : Value} {A0 : Option Addr} {c0 : Nat} {lots : List S44} {A1 : Option Addr} {c1 : Nat} {samples : List Int} {spread : Int} {A3 : Option Addr} {c3 : Nat} {labs : List S62} (h : In26 W v A0 c0 lots A1 c1 samples spread A3 c3 labs) (hok : RoundOk (lots.map m46) samples spread (labs.map m75)) (Aw : Option Addr) (cw : Nat) (words : List Int) (hC : (Kd.int .u16).C W Aw words.length words) (hc : words.length ≤ cw) (hw : WordsOk words) (bits shift : Int) (hs0 : -40000 ≤ shift) (hs1 : shift ≤ 40000) (hb0 : 0 ≤ bits) (hb1 : bits < 256) :
  Calls Try.prog 37 #[.agg #[.slice A0 lots.length c0, .slice A1 samples.length c1, .int .i64 spread, .slice A3 labs.length c3], .slice Aw words.length cw, .int .u8 bits, .int .i64 shift] W (ReadPost W A0 c0 lots.length A1 c1 samples.length spread (readF lots samples spread labs words bits shift labs.length)) := by
 have HI := Aside0.mk h
 have h6 : labs.length ≤ 6 := by have := hok.b6; rwa [List.length_map] at this
 have h8 := hok.s8
 have hsp0 := hok.sp0
 have hsp1 := hok.sp1
 have HOk := Aside0.mk hok
 have HW := Aside0.mk hw
 have HCw := Aside0.mk hC
 have HT := Aside0.mk (true_at (h.below (below_alloc (below_alloc (Below.refl _ W) (.cells #[.slice A0 lots.length c0, .slice A1 samples.length c1, .int .i64 spread, .slice A3 labs.length c3] 26)) (.cells #[.slice none 0 0, .slice none 0 0, .int .i64 0, .slice none 0 0] 26))) hok Aw cw words (Kd.C_alloc (Kd.C_alloc hC _) _) hc hw)
 have HB := Aside0.mk (below_alloc (below_alloc (Below.refl _ W) (.cells #[.slice A0 lots.length c0, .slice A1 samples.length c1, .int .i64 spread, .slice A3 labs.length c3] 26)) (.cells #[.slice none 0 0, .slice none 0 0, .int .i64 0, .slice none 0 0] 26))
 have B4 := Aside0.mk (blk_alloc (blk_new W (.cells #[.slice A0 lots.length c0, .slice A1 samples.length c1, .int .i64 spread, .slice A3 labs.length c3] 26)) (.cells #[.slice none 0 0, .slice none 0 0, .int .i64 0, .slice none 0 0] 26))
 have B8 := blk_new (W.alloc (.cells #[.slice A0 lots.length c0, .slice A1 samples.length c1, .int .i64 spread, .slice A3 labs.length c3] 26)) (.cells #[.slice none 0 0, .slice none 0 0, .int .i64 0, .slice none 0 0] 26)
 rw [World.size_alloc] at B8
 replace B8 := Aside0.mk B8
 obtain ⟨p0, p1, p2, p3⟩ := cells4 B4.out
 clear h hok hC hw
 go_enter Try.func37, Try.ntmps37
 go_wp2_with (go_at_call 41; refine Aside0.out ?_)
 refine ⟨?_⟩
 refine HT.out.mono ?_
 clear HT
 generalize ((W.alloc (.cells #[.slice A0 lots.length c0, .slice A1 samples.length c1, .int .i64 spread, .slice A3 labs.length c3] 26)).alloc (.cells #[.slice none 0 0, .slice none 0 0, .int .i64 0, .slice none 0 0] 26)) = w0 at HB B4 B8 p0 p1 p2 p3 ⊢
 rintro e w1 ⟨uV, rfl, hV, hb⟩
 obtain ⟨aV, cV, rfl, hcV, hV⟩ := hV
 rw [trueF_length] at hcV hV ⊢
 have HV := Aside0.mk hV
 replace HB := Aside0.mk (below_step HB.out hb)
 replace B4 := Aside0.mk (blk_below B4.out hb)
 replace B8 := Aside0.mk (blk_below B8.out hb)
 clear hb hV p0 p1 p2 p3
 obtain ⟨p0, p1, p2, p3⟩ := cells4 B4.out
 have lt_B4 := blk_lt B4.out
 have lt_B8 := blk_lt B8.out
 go_wp2
 have BO := Aside0.mk (blk_new w1 (.cells #[.slice A0 lots.length c0, .slice A1 samples.length c1, .int .i64 spread, .slice none 0 0] 26))
 replace B4 := Aside0.mk (blk_alloc B4.out (.cells #[.slice A0 lots.length c0, .slice A1 samples.length c1, .int .i64 spread, .slice none 0 0] 26))
 replace B8 := Aside0.mk (blk_alloc B8.out (.cells #[.slice A0 lots.length c0, .slice A1 samples.length c1, .int .i64 spread, .slice none 0 0] 26))
 have HB1 := Aside0.mk (below_alloc (Below.refl _ w1) (.cells #[.slice A0 lots.length c0, .slice A1 samples.length c1, .int .i64 spread, .slice none 0 0] 26))
 clear p0 p1 p2 p3
 generalize w1.alloc (.cells #[.slice A0 lots.length c0, .slice A1 samples.length c1, .int .i64 spread, .slice none 0 0] 26) = w2 at BO B4 B8 HB1 ⊢
 go_loopw [11] (fun q wr => ∃ k : Nat, k ≤ labs.length ∧ q = .int .i64 (k : Int) ∧ ∃ vL : Value, Aside0 (wr.heap[W.heap.size]? = some (.cells #[.slice A0 lots.length c0, .slice A1 samples.length c1, .int .i64 spread, .slice A3 labs.length c3] 26 (0, 0))) ∧ Aside0 (wr.heap[W.heap.size + 1]? = some (.cells #[.slice none 0 0, .slice none 0 0, .int .i64 0, .slice none 0 0] 26 (0, 0))) ∧ Aside0 (Below w1.heap.size w1 wr) ∧ Aside0 (wr.heap[w1.heap.size]? = some (.cells #[.slice A0 lots.length c0, .slice A1 samples.length c1, .int .i64 spread, vL] 26 (0, 0))) ∧ Aside0 (Kd.R k62 62 wr w1.heap.size (fun _ => True) vL (readF lots samples spread labs words bits shift k))) (fun q _ => labs.length - (intOf q).toNat)
 case atStart => exact ⟨0, Nat.zero_le _, rfl, _, B4, B8, HB1, BO, ⟨Kd.R_nil _ _ _ _ _⟩⟩
 case round =>
  clear B4 B8 HB1 BO
  obtain ⟨k, hk, rfl, vL, B4, B8, HB1, BO, HL⟩ := hrel
  obtain ⟨p0, p1, p2, p3⟩ := cells4 B4.out
  obtain ⟨o0, o1, o2, o3⟩ := cells4 BO.out
  have lt_B4' := blk_lt B4.out
  have lt_B8' := blk_lt B8.out
  have lt_BO := blk_lt BO.out
  by_cases hlt : k < labs.length
  ·obtain ⟨adL, AL, cL, hAL, hy0, hy1, hyl, hyc⟩ := at_T62 (HI.out.below (below_step HB.out HB1.out)).r3 (k : Int) (by omega) (by omega)
   subst hAL
   rw [Int.toNat_natCast] at hy0 hy1
   have HX := Aside0.mk (HOk.out.labs _ (List.mem_map_of_mem (mem_drop0 (rd62_drop labs k hlt))))
   have hx0 : 0 ≤ (rd_T62 labs (k : Int)).f0 := HX.out.1
   have hx1 : (rd_T62 labs (k : Int)).f0 ≤ 100 := HX.out.2.1
   have HXl := Aside0.mk (show (rd_T62 labs (k : Int)).f1.length = samples.length from HX.out.2.2.1)
   have e1 : decide (0 ≤ (k : Int)) = true := decide_eq_true (by omega)
   have e2 : decide ((k : Int) < (labs.length : Int)) = true := decide_eq_true (by omega)
   go_wp2
   have BX := Aside0.mk (blk_new wr (.cells #[.int .i64 (rd_T62 labs (k : Int)).f0, .slice none 0 0] 62))
   replace B4 := Aside0.mk (blk_alloc B4.out (.cells #[.int .i64 (rd_T62 labs (k : Int)).f0, .slice none 0 0] 62))
   replace B8 := Aside0.mk (blk_alloc B8.out (.cells #[.int .i64 (rd_T62 labs (k : Int)).f0, .slice none 0 0] 62))
   replace BO := Aside0.mk (blk_alloc BO.out (.cells #[.int .i64 (rd_T62 labs (k : Int)).f0, .slice none 0 0] 62))
   replace HB1 := Aside0.mk (below_alloc HB1.out (.cells #[.int .i64 (rd_T62 labs (k : Int)).f0, .slice none 0 0] 62))
   have HLx : Aside0 (Kd.R k62 62 (wr.alloc (.cells #[.int .i64 (rd_T62 labs (k : Int)).f0, .slice none 0 0] 62)) w1.heap.size (fun kk => kk ≠ wr.heap.size ∧ some kk ≠ (Value.slice none 0 0 : Value).ownBlock) vL (readF lots samples spread labs words bits shift k)) := ⟨Kd.R_alloc (Kd.R_mono (Kd.R_bound HL.out) (fun kk hkk => ⟨by have := hkk.2.2.1; omega, by simp [Value.ownBlock]⟩)) _⟩
   clear HL p0 p1 p2 p3 o0 o1 o2 o3 hy0 hy1 hyl hyc
   generalize hwx : wr.alloc (.cells #[.int .i64 (rd_T62 labs (k : Int)).f0, .slice none 0 0] 62) = wx at BX B4 B8 BO HB1 HLx ⊢
   clear hwx
   generalize wr.heap.size = gx at BX HLx lt_B4' lt_B8' lt_BO ⊢
   go_loopw [13] (fun q wr => ∃ i : Nat, i ≤ samples.length ∧ q = .int .i64 (i : Int) ∧ ∃ vR : Value, Aside0 (wr.heap[W.heap.size]? = some (.cells #[.slice A0 lots.length c0, .slice A1 samples.length c1, .int .i64 spread, .slice (some adL) labs.length c3] 26 (0, 0))) ∧ Aside0 (wr.heap[W.heap.size + 1]? = some (.cells #[.slice none 0 0, .slice none 0 0, .int .i64 0, .slice none 0 0] 26 (0, 0))) ∧ Aside0 (Below w1.heap.size w1 wr) ∧ Aside0 (wr.heap[w1.heap.size]? = some (.cells #[.slice A0 lots.length c0, .slice A1 samples.length c1, .int .i64 spread, vL] 26 (0, 0))) ∧ Aside0 (wr.heap[gx]? = some (.cells #[.int .i64 (rd_T62 labs (k : Int)).f0, vR] 62 (0, 0))) ∧ Aside0 ((Kd.int .i64).R 3 wr w1.heap.size (fun _ => True) vR (readRow lots samples spread labs words bits shift k i)) ∧ Aside0 (Kd.R k62 62 wr w1.heap.size (fun kk => kk ≠ gx ∧ some kk ≠ vR.ownBlock) vL (readF lots samples spread labs words bits shift k))) (fun q _ => samples.length - (intOf q).toNat)
   case atStart => exact ⟨0, Nat.zero_le _, rfl, _, B4, B8, HB1, BO, BX, ⟨Kd.R_nil _ _ _ _ _⟩, HLx⟩
   case round =>
    clear B4 B8 HB1 BO BX HLx
    obtain ⟨i, hi, rfl, vR, B4, B8, HB1, BO, BX, HR, HL⟩ := hrel
    obtain ⟨p0, p1, p2, p3⟩ := cells4 B4.out
    obtain ⟨o0, o1, o2, o3⟩ := cells4 BO.out
    obtain ⟨x0, x1⟩ := cells2 BX.out
    have z0 := blk_frozen BX.out 0
    have z1 := blk_frozen BX.out 1
    have z3 := blk_frozen BO.out 3
    have lt_4 := blk_lt B4.out
    have lt_8 := blk_lt B8.out
    have lt_O := blk_lt BO.out
    have lt_X := blk_lt BX.out
    by_cases hlti : i < samples.length
    ·obtain ⟨adL2, AL2, cL2, hAL2, hy0, hy1, hyl, hyc⟩ := at_T62 (HI.out.below (below_step HB.out HB1.out)).r3 (k : Int) (by omega) (by omega)
     injection hAL2 with hAL2
     subst hAL2
     rw [Int.toNat_natCast] at hy0 hy1
     have hle : (i : Int) < ((rd_T62 labs (k : Int)).f1.length : Int) := by rw [HXl.out]; omega
     obtain ⟨adR, hAR, hyR⟩ := Kd.at_int hyc (i : Int) (by omega) hle
     subst hAR
     rw [Int.toNat_natCast] at hyR
     have HVw := Kd.C_below HV.out HB1.out
     obtain ⟨adV, hAV, hyV⟩ := Kd.at_int (n := samples.length) HVw (i : Int) (by omega) (by omega)
     subst hAV
     rw [Int.toNat_natCast, trueF_get i hlti] at hyV
     clear HVw
     have htv := trueV_bd HOk.out HW.out i hlti
     have hwv := wordF_bd HW.out (5 * (k : Int) + (i : Int)) (by omega)
     have HWd := Aside0.mk (fun (n : Nat) => word_any Aw cw words (wr.drewN n) (Kd.C_drewN (Kd.C_below HCw.out (below_step HB.out HB1.out)) n) hc HW.out (5 * (k : Int) + (i : Int)) (by omega))
     have HM := Aside0.mk (show readM lots samples spread labs words bits shift k i = if bitB bits (k : Int) = true then trueV lots samples spread words i - (rd_T62 labs (k : Int)).f0 + wordF words (5 * (k : Int) + (i : Int)) % (2 * (rd_T62 labs (k : Int)).f0 + 1) + shift else trueV lots samples spread words i - (rd_T62 labs (k : Int)).f0 + wordF words (5 * (k : Int) + (i : Int)) % (2 * (rd_T62 labs (k : Int)).f0 + 1) from rfl)
     have HN := Aside0.mk (show readN lots samples spread labs words bits shift k i = if rd (rd_T62 labs (k : Int)).f1 (i : Int) < 0 ∨ ¬ (0 ≤ readM lots samples spread labs words bits shift k i ∧ readM lots samples spread labs words bits shift k i ≤ 1000) then -1 else readM lots samples spread labs words bits shift k i from rfl)
     have HS := Aside0.mk (readRow_snoc lots samples spread labs words bits shift k i)
     rw [← Int.tmod_eq_emod_of_nonneg hwv.1] at HM
     generalize readN lots samples spread labs words bits shift k i = nv at HN HS
     generalize readM lots samples spread labs words bits shift k i = mv at HM HN
     generalize rd (rd_T62 labs (k : Int)).f1 (i : Int) = rg at hyR HN
     generalize trueV lots samples spread words i = tv at hyV htv HM
     have hm0 : 0 ≤ Int.tmod (wordF words (5 * (k : Int) + (i : Int))) (2 * (rd_T62 labs (k : Int)).f0 + 1) := Int.tmod_nonneg _ hwv.1
     have hm1 := Int.tmod_lt_of_pos (wordF words (5 * (k : Int) + (i : Int))) (show 0 < 2 * (rd_T62 labs (k : Int)).f0 + 1 by omega)
     generalize wordF words (5 * (k : Int) + (i : Int)) = wv at HWd HM hwv hm0 hm1
     obtain ⟨m, hm⟩ : ∃ m, Int.tmod wv (2 * (rd_T62 labs (k : Int)).f0 + 1) = m := ⟨_, rfl⟩
     rw [hm] at hm0 hm1 HM
     obtain ⟨t0, t1⟩ := htv
     obtain ⟨v0, v1⟩ := hwv
     have s1 : IntKind.i64.wrap (tv - (rd_T62 labs (k : Int)).f0) = tv - (rd_T62 labs (k : Int)).f0 := IntWalk.i64_in _ (by omega)
     have s2 : IntKind.i64.wrap (5 * (k : Int)) = 5 * (k : Int) := IntWalk.i64_in _ (by omega)
     have s3 : IntKind.i64.wrap (5 * (k : Int) + (i : Int)) = 5 * (k : Int) + (i : Int) := IntWalk.i64_in _ (by omega)
     have s4 : IntKind.i64.wrap (2 * (rd_T62 labs (k : Int)).f0) = 2 * (rd_T62 labs (k : Int)).f0 := IntWalk.i64_in _ (by omega)
     have s5 : IntKind.i64.wrap (2 * (rd_T62 labs (k : Int)).f0 + 1) = 2 * (rd_T62 labs (k : Int)).f0 + 1 := IntWalk.i64_in _ (by omega)
     have s6 : IntKind.i64.wrap (tv - (rd_T62 labs (k : Int)).f0 + m) = tv - (rd_T62 labs (k : Int)).f0 + m := IntWalk.i64_in _ (by omega)
     have s7 : IntKind.i64.wrap (tv - (rd_T62 labs (k : Int)).f0 + m + shift) = tv - (rd_T62 labs (k : Int)).f0 + m + shift := IntWalk.i64_in _ (by omega)
     have hz : (2 * (rd_T62 labs (k : Int)).f0 + 1 == 0) = false := by rw [beq_eq_false_iff_ne]; omega
     have e3 : decide (0 ≤ (i : Int)) = true := decide_eq_true (by omega)
     have e4 : decide ((i : Int) < (samples.length : Int)) = true := decide_eq_true (by omega)
     have e5 : decide ((i : Int) < ((rd_T62 labs (k : Int)).f1.length : Int)) = true := decide_eq_true (by omega)
     go_wp2
     go_quiet ((go_at_call 61; (with_reducible refine (HWd.out _).mono ?_); rintro e w' ⟨rfl, ⟨nd, rfl⟩⟩; (try first | exact ⟨rfl, _, World.drewN_drewN _ _ _⟩ | exact ⟨rfl, _, Eq.trans (World.drewN_drewN _ _ _) (congrArg (World.drewN _) (Nat.add_assoc _ _ _))⟩)))
     clear HWd hm hz s1 s2 s3 s4 s5 s6 e3 hyV
     have hk2 : IntKind.u64.wrap (k : Int) = (k : Int) := IntWalk.u64_in _ (by omega)
     have hbb : Int.tmod (bits / 2 ^ k) 2 = 1 ↔ bitB bits (k : Int) = true := by
      unfold bitB
      rw [hk2, decide_eq_true_eq]
      unfold shr
      rw [Int.toNat_natCast, Nat.min_eq_left (by simp [IntKind.bits]; omega)]
     obtain ⟨sh, hsh⟩ : ∃ sh, bits / 2 ^ k = sh := ⟨_, rfl⟩
     rw [hsh] at hbb
     generalize bitB bits (k : Int) = bb at HM hbb
     have hs : (Int.tmod sh 2 == 1) = bb := by rw [Bool.eq_iff_iff, beq_iff_eq]; exact hbb
     go_upto_if 65 with fail
     clear hbb hs
     go_cut [14] (fun q wc => q = .int .i64 mv ∧ ∃ n, wc = wr.drewN n)
     case first =>
      cases bb with
      | true =>
       go_wp2
       go_meet
       case rel => exact ⟨by rw [HM.out]; rfl, _, rfl⟩
      | false =>
       go_wp2
       go_meet
       case rel => exact ⟨by rw [HM.out]; rfl, _, rfl⟩
     case rest =>
      obtain ⟨rfl, nq, rfl⟩ := hcut
      clear hsh hk2 s7
      go_upto_region 14 with fail
      have HIn := Aside0.mk (In_any mv 0 1000)
      go_cut [83] (fun q wc => q = .bool (decide (rg < 0 ∨ ¬ (0 ≤ mv ∧ mv ≤ 1000))) ∧ ∃ n, wc = wr.drewN n)
      case first =>
       by_cases hrg : rg < 0
       ·have hr : decide (rg < 0) = true := decide_eq_true hrg
        go_wp2
        go_meet
        case rel => exact ⟨by simp [hrg], _, rfl⟩
       ·have hr : decide (rg < 0) = false := decide_eq_false hrg
        go_wp2_with (go_at_call 33; (with_reducible refine (HIn.out _).mono ?_); rintro e w5 ⟨rfl, rfl⟩)
        go_meet
        case rel => exact ⟨congrArg Value.bool (by unfold withinB; rw [Bool.eq_iff_iff]; simp; omega), _, rfl⟩
      case rest =>
       obtain ⟨rfl, nq, rfl⟩ := hcut
       clear HIn
       go_upto_if 83 with fail
       go_cut [14] (fun q wc => q = .int .i64 nv ∧ ∃ n, wc = wr.drewN n)
       case first =>
        by_cases hcc : rg < 0 ∨ ¬ (0 ≤ mv ∧ mv ≤ 1000)
        ·have hd : decide (rg < 0 ∨ ¬ (0 ≤ mv ∧ mv ≤ 1000)) = true := decide_eq_true hcc
         rw [hd]
         go_wp2
         go_meet
         case rel => exact ⟨by rw [HN.out, if_pos hcc], _, rfl⟩
        ·have hd : decide (rg < 0 ∨ ¬ (0 ≤ mv ∧ mv ≤ 1000)) = false := decide_eq_false hcc
         rw [hd]
         go_wp2
         go_meet
         case rel => exact ⟨by rw [HN.out, if_neg hcc], _, rfl⟩
       case rest =>
        obtain ⟨rfl, nq, rfl⟩ := hcut
        clear HM HN hyR hy0 hy1
        go_wp2_with (first | ((with_reducible refine gate_builtin (b := .append) (xs := #[.tmp 85, .tmp 87]) rfl ?_); at_builtin; refine Kd.R_append (Kd.int .i64) (w0 := w1) w1.heap.size rfl (.tmp 85) (.tmp 87) 23 3 (.int .i64 0) 8 rfl Try.underlying23 info3 rfl (by decide) (by omega) vR (readRow lots samples spread labs words bits shift k i) nv [.int .i64 nv] (fun _ => True) (fun _ => False) rfl rfl rfl (fun _ hk => hk.elim) (fun _ _ => trivial) (by (with_reducible repeat (first | apply Kd.R_alloc | apply Kd.R_drewN | apply Kd.R_drew)); exact HR.out) (by repeat (first | (with_reducible exact HB1.out) | apply below_alloc | apply pw_below_drewN | apply below_drew1)) (below_size (by repeat (first | (with_reducible exact HB1.out) | apply below_alloc | apply pw_below_drewN | apply below_drew1))) (by rw [readRow_length]; omega) ?_; intro v4 w4 ho hb hg hat; rw [← HS.out] at ho; have n_B4 := Aside0.mk (blk_grown (g := W.heap.size) (o := .cells #[.slice A0 lots.length c0, .slice A1 samples.length c1, .int .i64 spread, .slice (some adL) labs.length c3] 26 (0, 0)) (by (with_reducible repeat (first | exact B4.out | refine blk_drewN ?_ _ | refine blk_drew ?_ | refine blk_alloc ?_ _))) hg (Kd.R_ne HR.out B4.out (by decide))); have n_B8 := Aside0.mk (blk_grown (g := W.heap.size + 1) (o := .cells #[.slice none 0 0, .slice none 0 0, .int .i64 0, .slice none 0 0] 26 (0, 0)) (by (with_reducible repeat (first | exact B8.out | refine blk_drewN ?_ _ | refine blk_drew ?_ | refine blk_alloc ?_ _))) hg (Kd.R_ne HR.out B8.out (by decide))); have n_BO := Aside0.mk (blk_grown (g := w1.heap.size) (o := .cells #[.slice A0 lots.length c0, .slice A1 samples.length c1, .int .i64 spread, vL] 26 (0, 0)) (by (with_reducible repeat (first | exact BO.out | refine blk_drewN ?_ _ | refine blk_drew ?_ | refine blk_alloc ?_ _))) hg (Kd.R_ne HR.out BO.out (by decide))); have n_BX := Aside0.mk (blk_grown (g := gx) (o := .cells #[.int .i64 (rd_T62 labs (k : Int)).f0, vR] 62 (0, 0)) (by (with_reducible repeat (first | exact BX.out | refine blk_drewN ?_ _ | refine blk_drew ?_ | refine blk_alloc ?_ _))) hg (Kd.R_ne HR.out BX.out (by decide))); have n_HL := Aside0.mk (Kd.R_after (ok := fun kk => kk ≠ gx) (by (with_reducible repeat (first | apply Kd.R_alloc | apply Kd.R_drewN | apply Kd.R_drew)); exact HL.out) hg hat); have n_HB1 := Aside0.mk hb; have n_HR := Aside0.mk ho; clear p0 p1 p2 p3 o0 o1 o2 o3 x0 x1 z0 z1 z3 ho hb hg hat; clear B4 B8 BO BX HL HB1 HR; have B4 := n_B4; have B8 := n_B8; have BO := n_BO; have BX := n_BX; have HL := n_HL; have HB1 := n_HB1; have HR := n_HR; clear n_B4 n_B8 n_BO n_BX n_HL n_HB1 n_HR; obtain ⟨Ao, co, eo⟩ := Kd.R_slice HR.out; subst eo; have x1 := blk_cell BX.out 1; have z1 := blk_frozen BX.out 1))
        go_roundw
        case rel => exact ⟨i + 1, by omega, by go_num, _, ⟨blk_far B4.out (by simp; omega) _⟩, ⟨blk_far B8.out (by simp; omega) _⟩, ⟨below_set HB1.out (by first | omega | (simp; omega) | simp)⟩, ⟨blk_far BO.out (by simp; omega) _⟩, ⟨blk_put (cs := #[.int .i64 (rd_T62 labs (k : Int)).f0, vR]) BX.out 1 _ rfl⟩, ⟨Kd.R_mono (Kd.R_far (p := ⟨gx, 1, none⟩) (Kd.R_types HR.out BX.out (by decide)) (fun _ hk => hk.2) _) (fun _ _ => trivial)⟩, ⟨Kd.R_far (p := ⟨gx, 1, none⟩) HL.out (fun _ hk => hk.1) _⟩⟩
        case measure => simp [intOf]; omega
    ·have : i = samples.length := by omega
     subst this
     obtain ⟨Ao, co, eo⟩ := Kd.R_slice HR.out
     subst eo
     go_wp2_with (first | ((with_reducible refine gate_builtin (b := .append) (xs := #[.tmp 91, .tmp 93]) rfl ?_); at_builtin; refine Kd.R_append k62 (w0 := w1) w1.heap.size rfl (.tmp 91) (.tmp 93) 24 62 (.agg #[(.int .i64 0), (.slice none 0 0)]) 32 rfl Try.underlying24 info62 rfl (by decide) (by omega) vL (readF lots samples spread labs words bits shift k) (⟨(rd_T62 labs (k : Int)).f0, readRow lots samples spread labs words bits shift k samples.length⟩ : S62) [.int .i64 (rd_T62 labs (k : Int)).f0, .slice Ao (readRow lots samples spread labs words bits shift k samples.length).length co] (fun kk => kk ≠ gx) (fun kk => some kk = (.slice Ao (readRow lots samples spread labs words bits shift k samples.length).length co : Value).ownBlock) rfl rfl (k62_mkM _ _ _ (⟨(rd_T62 labs (k : Int)).f0, readRow lots samples spread labs words bits shift k samples.length⟩ : S62) (Kd.R_mono (Kd.R_tight rfl (Kd.R_mono (ok' := fun kk => kk ≠ gx ∧ some kk ≠ vL.ownBlock) (Kd.R_types (Kd.R_apart' HR.out (Kd.R_typed HL.out) (by decide)) BX.out (by decide)) (fun _ hk => ⟨hk.2, hk.1.2⟩))) (fun _ h_ => h_))) (fun k_ hk_ => (Kd.R_mono (ok' := fun kk => kk ≠ gx ∧ some kk ≠ vL.ownBlock) (Kd.R_types (Kd.R_apart' HR.out (Kd.R_typed HL.out) (by decide)) BX.out (by decide)) (fun _ hk => ⟨hk.2, hk.1.2⟩)).1 k_ hk_.symm) (fun k_ hk => Kd.freshB (g := gx) (o := .cells #[.int .i64 (rd_T62 labs (k : Int)).f0, .slice Ao (readRow lots samples spread labs words bits shift k samples.length).length co] 62 (0, 0)) (by (with_reducible repeat (first | exact BX.out | refine blk_drewN ?_ _ | refine blk_drew ?_ | refine blk_alloc ?_ _))) k_ hk) (by (with_reducible repeat (first | apply Kd.R_alloc | apply Kd.R_drewN | apply Kd.R_drew)); exact Kd.R_mono HL.out (fun _ hk => hk.1)) (by repeat (first | (with_reducible exact HB1.out) | apply below_alloc | apply pw_below_drewN | apply below_drew1)) (below_size (by repeat (first | (with_reducible exact HB1.out) | apply below_alloc | apply pw_below_drewN | apply below_drew1))) (by rw [readF_length]; omega) ?_; intro v4 w4 ho hb hg hat; rw [← readF_snoc] at ho; have n_B4 := Aside0.mk (blk_grown (g := W.heap.size) (o := .cells #[.slice A0 lots.length c0, .slice A1 samples.length c1, .int .i64 spread, .slice (some adL) labs.length c3] 26 (0, 0)) (by (with_reducible repeat (first | exact B4.out | refine blk_drewN ?_ _ | refine blk_drew ?_ | refine blk_alloc ?_ _))) hg (Kd.R_ne HL.out B4.out (by decide))); have n_B8 := Aside0.mk (blk_grown (g := W.heap.size + 1) (o := .cells #[.slice none 0 0, .slice none 0 0, .int .i64 0, .slice none 0 0] 26 (0, 0)) (by (with_reducible repeat (first | exact B8.out | refine blk_drewN ?_ _ | refine blk_drew ?_ | refine blk_alloc ?_ _))) hg (Kd.R_ne HL.out B8.out (by decide))); have n_BO := Aside0.mk (blk_grown (g := w1.heap.size) (o := .cells #[.slice A0 lots.length c0, .slice A1 samples.length c1, .int .i64 spread, vL] 26 (0, 0)) (by (with_reducible repeat (first | exact BO.out | refine blk_drewN ?_ _ | refine blk_drew ?_ | refine blk_alloc ?_ _))) hg (Kd.R_ne HL.out BO.out (by decide))); have n_HB1 := Aside0.mk hb; have n_HL := Aside0.mk ho; clear p0 p1 p2 p3 o0 o1 o2 o3 x0 x1 z0 z1 z3 ho hb hg hat HR; clear B4 B8 BO HB1 HL; have B4 := n_B4; have B8 := n_B8; have BO := n_BO; have HB1 := n_HB1; have HL := n_HL; clear n_B4 n_B8 n_BO n_HB1 n_HL; obtain ⟨Al, cl, el⟩ := Kd.R_slice HL.out; subst el; have o3 := blk_cell BO.out 3; have z3 := blk_frozen BO.out 3))
     go_roundw
     case rel => exact ⟨k + 1, by omega, by go_num, _, ⟨blk_far B4.out (by simp; omega) _⟩, ⟨blk_far B8.out (by simp; omega) _⟩, ⟨below_set HB1.out (by simp)⟩, ⟨blk_put (cs := #[.slice A0 lots.length c0, .slice A1 samples.length c1, .int .i64 spread, vL]) BO.out 3 _ rfl⟩, ⟨Kd.R_mono (Kd.R_far (p := ⟨w1.heap.size, 3, none⟩) (Kd.R_types HL.out BO.out (by decide)) (fun _ hk => hk.2) _) (fun _ _ => trivial)⟩⟩
     case measure => simp [intOf]; omega
  ·have : k = labs.length := by omega
   subst this
   obtain ⟨Ao, co, eo⟩ := Kd.R_slice HL.out
   subst eo
   have y0 := blk_cell B8.out 0
   have y1 := blk_cell B8.out 1
   have y2 := blk_cell B8.out 2
   have y3 := blk_cell B8.out 3
   have z0 := blk_frozen B8.out 0
   have z1 := blk_frozen B8.out 1
   have z2 := blk_frozen B8.out 2
   have z3 := blk_frozen B8.out 3
   go_wp2
   refine bodyPost_ret (results_single rfl (.cell (W.heap.size + 1) 26 _ (0, 0) _ rfl (put4 B8.out _ _ _ _) rfl rfl rfl .nil)) rfl ?_
   refine ⟨Ao, co, ?_, ?_, ?_, ?_⟩
   ·rw [readF_length]
   ·exact (Kd.R_reads' (r4 HL.out (by omega) _ _ _ _)).2.2
   ·rw [readF_length]
    have := (Kd.R_reads' HL.out).2.1
    rwa [readF_length] at this
   ·exact below_set (below_set (below_set (below_set (below_step HB.out HB1.out) (by simp)) (by simp)) (by simp)) (by simp)
end Go.Proofs.Ytcpbhklaffgokaa.Q
namespace Go.Proofs.Ytcpbhklaffgokaa.Q
open Go.RowKit Go.Proofs.YtcpbhklaffgokaaW.PrintWords Go.Proofs.YtcpbhklaffgokaaW.PrintLast Go.Proofs.YtcpbhklaffgokaaW.PrintMore
set_option linter.unusedVariables false
set_option linter.unusedSimpArgs false
theorem off_one (lab : Int) (h : 0 ≤ lab) : offOf [lab] = oneOff lab := by
 funext j
 unfold offOf oneOff
 refine bool_ext ?_
 simp
 omega
theorem shK_spec (can : Int → Bool) : ∀ k : Nat, k ≤ 4001 → (∀ d : Int, -2000 ≤ d → d < (k : Int) - 2000 → can d = true → (shK can k).f0 ≤ d ∧ d ≤ (shK can k).f1) ∧
  (((shK can k).f0 = 1073741824 ∧ (shK can k).f1 = -1073741824) ∨ (can (shK can k).f0 = true ∧ can (shK can k).f1 = true ∧ -2000 ≤ (shK can k).f0 ∧ (shK can k).f0 ≤ (shK can k).f1 ∧ (shK can k).f1 < (k : Int) - 2000)) := by
 intro k
 induction k with
 | zero => intro _; exact ⟨fun d h1 h2 => by omega, .inl ⟨rfl, rfl⟩⟩
 | succ k ih =>
  intro hk
  obtain ⟨h1, h2⟩ := ih (by omega)
  simp only [shK]
  by_cases hc : can ((k : Int) - 2000) = true
  ·rw [if_pos hc]
   generalize shK can k = r at h1 h2 ⊢
   refine ⟨fun d g1 g2 g3 => ?_, .inr ?_⟩
   ·simp only
    by_cases e : d = (k : Int) - 2000
    ·omega
    ·have := h1 d g1 (by omega) g3
     omega
   ·rcases h2 with ⟨e0, e1⟩ | ⟨a, b, c, d, e⟩
    ·have em : min r.f0 ((k : Int) - 2000) = (k : Int) - 2000 := by omega
     simp only [em]
     exact ⟨hc, hc, by omega, by omega, by omega⟩
    ·have em : min r.f0 ((k : Int) - 2000) = r.f0 := by omega
     simp only [em]
     exact ⟨a, hc, c, by omega, by omega⟩
  ·rw [if_neg hc]
   refine ⟨fun d g1 g2 g3 => ?_, ?_⟩
   ·by_cases e : d = (k : Int) - 2000
    ·subst e; exact absurd g3 hc
    ·exact h1 d g1 (by omega) g3
   ·rcases h2 with h2 | ⟨a, b, c, d, e⟩
    ·exact .inl h2
    ·exact .inr ⟨a, b, c, d, by omega⟩
section
variable {lots : List S46} {samples : List Int} {spread : Int} {labs : List S75}
theorem can_between (hok : RoundOk lots samples spread labs) (o : Nat → Bool) (lab d1 d d2 : Int) (h1 : d1 ≤ d) (h2 : d ≤ d2) (c1 : (spansF lots samples spread labs o lab d1).2 = true) (c2 : (spansF lots samples spread labs o lab d2).2 = true) : (spansF lots samples spread labs o lab d).2 = true := by
 rw [can_iff hok] at c1 c2 ⊢
 intro L hL
 obtain ⟨v1, a1, f1⟩ := c1 L hL
 obtain ⟨v2, a2, f2⟩ := c2 L hL
 have hs := hok.sp0
 unfold inR at a1 a2
 refine ⟨max (min v1 v2) (min (v1 + d1) (v2 + d2) - d), ⟨by omega, by omega⟩, fun i hi e => ?_⟩
 obtain ⟨u1, b1, p1, q1⟩ := f1 i hi e
 obtain ⟨u2, b2, p2, q2⟩ := f2 i hi e
 rw [sampR_iff] at b1 b2
 obtain ⟨x1, y1⟩ := b1
 obtain ⟨x2, y2⟩ := b2
 have z1 : (-1073741824 : Int) ≤ u1 ∧ u1 ≤ 1073741824 := x1
 have z2 : (-1073741824 : Int) ≤ u2 ∧ u2 ≤ 1073741824 := x2
 refine ⟨max (max (min u1 u2) (min (u1 + d1) (u2 + d2) - d)) (max (min v1 v2) (min (v1 + d1) (v2 + d2) - d) - spread), ?_, by omega, by omega⟩
 rw [sampR_iff]
 refine ⟨⟨show (-1073741824 : Int) ≤ _ by omega, show _ ≤ (1073741824 : Int) by omega⟩, fun j hj ho hn => ?_⟩
 have g1 := y1 j hj ho hn
 have g2 := y2 j hj ho hn
 unfold rangeOf inR at g1 g2 ⊢
 by_cases hl : (j : Int) = lab
 ·simp only [if_pos hl] at g1 g2 ⊢
  omega
 ·simp only [if_neg hl] at g1 g2 ⊢
  omega
theorem shifts_found (hok : RoundOk lots samples spread labs) (lab : Int) :
  ((shK (canS lots samples spread labs lab) 4001).f0 = 1073741824 ∧ (shK (canS lots samples spread labs lab) 4001).f1 = -1073741824 ∧ ∀ d, -2000 ≤ d → d ≤ 2000 → canS lots samples spread labs lab d = false) ∨
  (-2000 ≤ (shK (canS lots samples spread labs lab) 4001).f0 ∧ (shK (canS lots samples spread labs lab) 4001).f0 ≤ (shK (canS lots samples spread labs lab) 4001).f1 ∧ (shK (canS lots samples spread labs lab) 4001).f1 ≤ 2000 ∧
   ∀ d, -2000 ≤ d → d ≤ 2000 → canS lots samples spread labs lab d = (decide ((shK (canS lots samples spread labs lab) 4001).f0 ≤ d) && decide (d ≤ (shK (canS lots samples spread labs lab) 4001).f1))) := by
 obtain ⟨h1, h2⟩ := shK_spec (canS lots samples spread labs lab) 4001 (Nat.le_refl _)
 generalize shK (canS lots samples spread labs lab) 4001 = r at h1 h2 ⊢
 rcases h2 with ⟨e0, e1⟩ | ⟨a, b, c, d, e⟩
 ·refine .inl ⟨e0, e1, fun d g1 g2 => ?_⟩
  cases hc : canS lots samples spread labs lab d
  ·rfl
  ·have := h1 d g1 (by omega) hc
   omega
 ·refine .inr ⟨c, d, by omega, fun x g1 g2 => ?_⟩
  refine bool_ext ?_
  rw [Bool.and_eq_true, decide_eq_true_eq, decide_eq_true_eq]
  constructor
  ·exact fun hc => h1 x g1 (by omega) hc
  ·rintro ⟨k1, k2⟩
   exact can_between hok _ lab r.f0 x r.f1 k1 k2 a b
end
end Go.Proofs.Ytcpbhklaffgokaa.Q
namespace Go.Proofs.Ytcpbhklaffgokaa.Q
open Go.RowKit Go.Proofs.YtcpbhklaffgokaaW.PrintWords Go.Proofs.YtcpbhklaffgokaaW.PrintLast Go.Proofs.YtcpbhklaffgokaaW.PrintMore
set_option linter.unusedVariables false
set_option linter.unusedSimpArgs false
section
variable (lots : List S44) (samples : List Int) (spread : Int) (labs : List S62)
end
end Go.Proofs.Ytcpbhklaffgokaa.Q
namespace Go.Proofs.Ytcpbhklaffgokaa.Q
open Go.RowKit Go.Proofs.YtcpbhklaffgokaaW.PrintWords Go.Proofs.YtcpbhklaffgokaaW.PrintLast Go.Proofs.YtcpbhklaffgokaaW.PrintMore
attribute [local go_sem] max2_int min2_int max_two min_two max_three min_three max_four min_four
set_option linter.unusedVariables false
set_option linter.unusedSimpArgs false
end Go.Proofs.Ytcpbhklaffgokaa.Q
namespace Go.Proofs.Ytcpbhklaffgokaa.Q
open Go.RowKit Go.Proofs.YtcpbhklaffgokaaW.PrintWords Go.Proofs.YtcpbhklaffgokaaW.PrintLast Go.Proofs.YtcpbhklaffgokaaW.PrintMore
set_option linter.unusedVariables false
set_option linter.unusedSimpArgs false
end Go.Proofs.Ytcpbhklaffgokaa.Q
namespace Go.Proofs.Ytcpbhklaffgokaa.Q
open Go.RowKit Go.Proofs.YtcpbhklaffgokaaW.PrintWords Go.Proofs.YtcpbhklaffgokaaW.PrintLast Go.Proofs.YtcpbhklaffgokaaW.PrintMore
set_option linter.unusedVariables false
set_option linter.unusedSimpArgs false
section
variable {lots : List S44} {samples : List Int} {spread : Int} {labs : List S62} {words : List Int} {bits shift : Int}
theorem readF_getD (k : Nat) (hk : k < labs.length) : (readF lots samples spread labs words bits shift labs.length).getD k z62 = ⟨(rd_T62 labs (k : Int)).f0, readRow lots samples spread labs words bits shift k samples.length⟩ := by
 unfold readF
 rw [List.getD_eq_getElem?_getD, List.getElem?_map, List.getElem?_range hk]
 rfl
theorem readRow_getD (k i n : Nat) (hi : i < n) : (readRow lots samples spread labs words bits shift k n).getD i 0 = readN lots samples spread labs words bits shift k i := by
 unfold readRow
 rw [List.getD_eq_getElem?_getD, List.getElem?_map, List.getElem?_range hi]
 rfl
theorem readN_bd (k i : Nat) : -1 ≤ readN lots samples spread labs words bits shift k i ∧ readN lots samples spread labs words bits shift k i ≤ 1000 := by
 unfold readN
 split <;> omega
theorem readN_eq (k i : Nat) (h : readN lots samples spread labs words bits shift k i ≠ -1) : readN lots samples spread labs words bits shift k i = readM lots samples spread labs words bits shift k i := by
 unfold readN at h ⊢
 split at h
 ·exact absurd rfl h
 ·rename_i hc
  rw [if_neg hc]
theorem lab_ok (hok : RoundOk (lots.map m46) samples spread (labs.map m75)) (k : Nat) (hk : k < labs.length) : LabOk samples.length (m75 (rd_T62 labs (k : Int))) :=
 hok.labs _ (List.mem_map_of_mem (mem_drop0 (rd62_drop labs k hk)))
theorem read_ok (hok : RoundOk (lots.map m46) samples spread (labs.map m75)) : RoundOk (lots.map m46) samples spread ((readF lots samples spread labs words bits shift labs.length).map m75) := by
 have hk := lab_ok hok
 obtain ⟨l0, l4, s8, b6, hlot, hsmp, sp0, sp1, hlab⟩ := hok
 refine ⟨l0, l4, s8, by rw [List.length_map, readF_length]; rwa [List.length_map] at b6, hlot, hsmp, sp0, sp1, fun x hx => ?_⟩
 obtain ⟨y, hy, rfl⟩ := List.mem_map.1 hx
 unfold readF at hy
 obtain ⟨k, hk', rfl⟩ := List.mem_map.1 hy
 obtain ⟨a, b, c, d⟩ := hk k (List.mem_range.1 hk')
 refine ⟨a, b, readRow_length _ _ _ _ _ _ _ _ _, fun n hn => ?_⟩
 have hn' : n ∈ readRow lots samples spread labs words bits shift k samples.length := hn
 unfold readRow at hn'
 obtain ⟨i, _, rfl⟩ := List.mem_map.1 hn'
 exact readN_bd k i
theorem read_thin (hok : RoundOk (lots.map m46) samples spread (labs.map m75)) : ThinR lots samples (readF lots samples spread labs words bits shift labs.length) := by
 obtain ⟨l0, l4, s8, b6, hlot, hsmp, sp0, sp1, hlab⟩ := hok
 rw [List.length_map] at l4 b6
 refine ⟨by omega, by omega, by rw [readF_length]; omega, fun x hx => ?_⟩
 unfold readF at hx
 obtain ⟨k, _, rfl⟩ := List.mem_map.1 hx
 show (readRow lots samples spread labs words bits shift k samples.length).length ≤ 10
 rw [readRow_length]
 omega
theorem truth_samp (hok : RoundOk (lots.map m46) samples spread (labs.map m75)) (hw : WordsOk words) (o : Nat → Bool) (lab d : Int) (i : Nat) (hi : i < samples.length)
  (H : ∀ j, j < labs.length → o j = false → ((j : Int) = lab → bitB bits (j : Int) = true ∧ d = shift) ∧ ((j : Int) ≠ lab → bitB bits (j : Int) = false)) :
  inR (trueV lots samples spread words i) (sampR ((readF lots samples spread labs words bits shift labs.length).map m75) o lab d (i : Int)) := by
 have hb := trueV_bd hok hw i hi
 rw [sampR_iff]
 refine ⟨inR_far _ (by omega) (by omega), fun j hj ho hn => ?_⟩
 rw [List.length_map, readF_length] at hj
 rw [getD75, readF_getD j hj] at hn ⊢
 obtain ⟨t0, t1, -, -⟩ := lab_ok hok j hj
 have t0 : 0 ≤ (rd_T62 labs (j : Int)).f0 := t0
 have e : rdL (m75 ⟨(rd_T62 labs (j : Int)).f0, readRow lots samples spread labs words bits shift j samples.length⟩) (i : Int) = readN lots samples spread labs words bits shift j i := by
  unfold rdL
  rw [rd_eq]
  exact readRow_getD j i _ hi
 obtain ⟨h1, h2⟩ := H j hj ho
 unfold rangeOf inR
 rw [e] at hn ⊢
 have em := readN_eq j i hn
 rw [em]
 have hwd := wordF_bd hw (5 * (j : Int) + (i : Int)) (by omega)
 have m1 := Int.emod_nonneg (wordF words (5 * (j : Int) + (i : Int))) (show 2 * (rd_T62 labs (j : Int)).f0 + 1 ≠ 0 by omega)
 have m2 := Int.emod_lt_of_pos (wordF words (5 * (j : Int) + (i : Int))) (show 0 < 2 * (rd_T62 labs (j : Int)).f0 + 1 by omega)
 have et : (m75 ⟨(rd_T62 labs (j : Int)).f0, readRow lots samples spread labs words bits shift j samples.length⟩ : S75).f0 = (rd_T62 labs (j : Int)).f0 := rfl
 rw [et]
 unfold readM
 by_cases hl : (j : Int) = lab
 ·obtain ⟨b1, b2⟩ := h1 hl
  rw [if_pos b1, if_pos hl]
  simp only
  omega
 ·rw [if_neg (show ¬ bitB bits (j : Int) = true by rw [h2 hl]; decide), if_neg hl]
  simp only
  omega
theorem lotW_inR (hok : RoundOk (lots.map m46) samples spread (labs.map m75)) (hw : WordsOk words) (L : Nat) (hL : L < lots.length) : inR (lotW lots words (L : Int)) ((lots.map m46).getD L z46) := by
 rw [getD46 lots L hL]
 exact lotW_in hok hw L hL
theorem truth_fits (hok : RoundOk (lots.map m46) samples spread (labs.map m75)) (hw : WordsOk words) (o : Nat → Bool) (lab d : Int) (L : Nat)
  (H : ∀ j, j < labs.length → o j = false → ((j : Int) = lab → bitB bits (j : Int) = true ∧ d = shift) ∧ ((j : Int) ≠ lab → bitB bits (j : Int) = false)) :
  fitsP ((readF lots samples spread labs words bits shift labs.length).map m75) samples spread o lab d L (lotW lots words (L : Int)) := by
 intro i hi e
 refine ⟨trueV lots samples spread words i, truth_samp hok hw o lab d i hi H, ?_⟩
 have h := trueV_near hok hw i hi
 obtain ⟨s0, -⟩ := lot_at hok i hi
 rw [show samples.getD i 0 = (L : Int) by omega] at h
 exact h
theorem truth_can (hok : RoundOk (lots.map m46) samples spread (labs.map m75)) (hw : WordsOk words) (o : Nat → Bool) (lab d : Int)
  (H : ∀ j, j < labs.length → o j = false → ((j : Int) = lab → bitB bits (j : Int) = true ∧ d = shift) ∧ ((j : Int) ≠ lab → bitB bits (j : Int) = false)) :
  (spansF (lots.map m46) samples spread ((readF lots samples spread labs words bits shift labs.length).map m75) o lab d).2 = true := by
 rw [can_iff (read_ok hok)]
 intro L hL
 rw [List.length_map] at hL
 exact ⟨lotW lots words (L : Int), lotW_inR hok hw L hL, truth_fits hok hw o lab d L H⟩
end
end Go.Proofs.Ytcpbhklaffgokaa.Q
namespace Go.Proofs.Ytcpbhklaffgokaa.Q
open Go.RowKit Go.Proofs.YtcpbhklaffgokaaW.PrintWords Go.Proofs.YtcpbhklaffgokaaW.PrintLast Go.Proofs.YtcpbhklaffgokaaW.PrintMore
set_option linter.unusedVariables false
set_option linter.unusedSimpArgs false
theorem read_at {W : World} {v : Value} {A0 : Option Addr} {c0 : Nat} {lots : List S44} {A1 : Option Addr} {c1 : Nat} {samples : List Int} {spread : Int} {A3 : Option Addr} {c3 : Nat} {labs : List S62} (h : In26 W v A0 c0 lots A1 c1 samples spread A3 c3 labs) (hok : RoundOk (lots.map m46) samples spread (labs.map m75)) (Aw : Option Addr) (cw : Nat) (words : List Int) (hC : (Kd.int .u16).C W Aw words.length words) (hc : words.length ≤ cw) (hw : WordsOk words) (bits shift : Int) (hs0 : -40000 ≤ shift) (hs1 : shift ≤ 40000) (hb0 : 0 ≤ bits) (hb1 : bits < 256) :
  Calls Try.prog 37 #[.agg #[.slice A0 lots.length c0, .slice A1 samples.length c1, .int .i64 spread, .slice A3 labs.length c3], .slice Aw words.length cw, .int .u8 bits, .int .i64 shift] W (fun e w' => ∃ A c, e = .returned (.agg #[.slice A0 lots.length c0, .slice A1 samples.length c1, .int .i64 spread, .slice A (readF lots samples spread labs words bits shift labs.length).length c]) ∧ In26 w' (.agg #[.slice A0 lots.length c0, .slice A1 samples.length c1, .int .i64 spread, .slice A (readF lots samples spread labs words bits shift labs.length).length c]) A0 c0 lots A1 c1 samples spread A c (readF lots samples spread labs words bits shift labs.length) ∧ Below W.heap.size W w') := by
 refine (read_any h hok Aw cw words hC hc hw bits shift hs0 hs1 hb0 hb1).mono ?_
 rintro e w' ⟨A, c, rfl, hC', hc', hb⟩
 have ht := read_thin (words := words) (bits := bits) (shift := shift) hok
 exact ⟨A, c, rfl, ⟨rfl, Kd.C_below h.r0 hb, h.h0, Kd.C_below h.r1 hb, h.h1, hC', hc', h.a, h.b, by have := ht.c; omega, fun x hx => by have := ht.d x hx; omega⟩, hb⟩
set_option maxHeartbeats 4000000 in
set_option maxRecDepth 100000 in
theorem alike_no {W : World} {v : Value} {A0 : Option Addr} {c0 : Nat} {lots : List S44} {A1 : Option Addr} {c1 : Nat} {samples : List Int} {spread : Int} {A3 : Option Addr} {c3 : Nat} {labs : List S62} (h : In26 W v A0 c0 lots A1 c1 samples spread A3 c3 labs) (Aw : Option Addr) (cw : Nat) (words : List Int) (lab shift : Int) (hr : Ev (fun k => tensilelaw08_ready.f k lots samples spread labs) false) :
  Calls Try.prog 11 #[.agg #[.slice A0 lots.length c0, .slice A1 samples.length c1, .int .i64 spread, .slice A3 labs.length c3], .slice Aw words.length cw, .int .u8 lab, .int .i16 shift] W (RetB W (.bool true)) := by
 have HI := Aside0.mk h
 have HB := Aside0.mk (below_alloc (Below.refl _ W) (.cells #[.slice A0 lots.length c0, .slice A1 samples.length c1, .int .i64 spread, .slice A3 labs.length c3] 26))
 have B3 := Aside0.mk (blk_new W (.cells #[.slice A0 lots.length c0, .slice A1 samples.length c1, .int .i64 spread, .slice A3 labs.length c3] 26))
 obtain ⟨p0, p1, p2, p3⟩ := cells4 B3.out
 have lt_B3 := blk_lt B3.out
 have HRd := Aside0.mk hr
 clear h hr
 go_enter Try.func11, Try.ntmps11
 go_wp2_with (first | (go_at_call 35; (with_reducible refine (ready_at (HI.out.below (by repeat (first | (with_reducible exact HB.out) | apply below_alloc | apply pw_below_drewN | apply below_drew1 | refine below_set ?_ (by omega)))) HRd.out).mono ?_); rintro e w1 ⟨rfl, hb⟩; replace HB := Aside0.mk (below_step (by repeat (first | (with_reducible exact HB.out) | apply below_alloc | apply pw_below_drewN | apply below_drew1 | refine below_set ?_ (by omega))) hb); replace B3 := Aside0.mk (blk_below (g := W.heap.size) (o := .cells #[.slice A0 lots.length c0, .slice A1 samples.length c1, .int .i64 spread, .slice A3 labs.length c3] 26 (0, 0)) (by (with_reducible repeat (first | exact B3.out | refine blk_drewN ?_ _ | refine blk_drew ?_ | refine blk_alloc ?_ _))) hb); clear hb; (try clear p0 p1 p2 p3); (try clear lt_B3); have lt_B3 := blk_lt B3.out; obtain ⟨p0, p1, p2, p3⟩ := cells4 B3.out) | (go_at_call 18; (with_reducible refine (wakes_any _).mono ?_); rintro e w9 ⟨rfl, hb⟩; replace HB := Aside0.mk (below_step (by repeat (first | (with_reducible exact HB.out) | apply below_alloc | apply pw_below_drewN | apply below_drew1 | refine below_set ?_ (by omega))) hb); replace B3 := Aside0.mk (blk_below (g := W.heap.size) (o := .cells #[.slice A0 lots.length c0, .slice A1 samples.length c1, .int .i64 spread, .slice A3 labs.length c3] 26 (0, 0)) (by (with_reducible repeat (first | exact B3.out | refine blk_drewN ?_ _ | refine blk_drew ?_ | refine blk_alloc ?_ _))) hb); clear hb; (try clear p0 p1 p2 p3); (try clear lt_B3); have lt_B3 := blk_lt B3.out; obtain ⟨p0, p1, p2, p3⟩ := cells4 B3.out))
 go_ret
 exact ⟨rfl, HB.out⟩
set_option maxHeartbeats 4000000 in
set_option maxRecDepth 100000 in
theorem alike_none {W : World} {v : Value} {A0 : Option Addr} {c0 : Nat} {lots : List S44} {A1 : Option Addr} {c1 : Nat} {samples : List Int} {spread : Int} {A3 : Option Addr} {c3 : Nat} {labs : List S62} (h : In26 W v A0 c0 lots A1 c1 samples spread A3 c3 labs) (Aw : Option Addr) (cw : Nat) (words : List Int) (lab shift : Int) (hr : Ev (fun k => tensilelaw08_ready.f k lots samples spread labs) true) (h0 : labs.length = 0) :
  Calls Try.prog 11 #[.agg #[.slice A0 lots.length c0, .slice A1 samples.length c1, .int .i64 spread, .slice A3 labs.length c3], .slice Aw words.length cw, .int .u8 lab, .int .i16 shift] W (RetB W (.bool true)) := by
 have HI := Aside0.mk h
 have HB := Aside0.mk (below_alloc (Below.refl _ W) (.cells #[.slice A0 lots.length c0, .slice A1 samples.length c1, .int .i64 spread, .slice A3 labs.length c3] 26))
 have B3 := Aside0.mk (blk_new W (.cells #[.slice A0 lots.length c0, .slice A1 samples.length c1, .int .i64 spread, .slice A3 labs.length c3] 26))
 obtain ⟨p0, p1, p2, p3⟩ := cells4 B3.out
 have lt_B3 := blk_lt B3.out
 have HRd := Aside0.mk hr
 have e0 : ((labs.length : Int) == 0) = true := beq_iff_eq.2 (by omega)
 clear h hr h0
 go_enter Try.func11, Try.ntmps11
 go_wp2_with (first | (go_at_call 35; (with_reducible refine (ready_at (HI.out.below (by repeat (first | (with_reducible exact HB.out) | apply below_alloc | apply pw_below_drewN | apply below_drew1 | refine below_set ?_ (by omega)))) HRd.out).mono ?_); rintro e w1 ⟨rfl, hb⟩; replace HB := Aside0.mk (below_step (by repeat (first | (with_reducible exact HB.out) | apply below_alloc | apply pw_below_drewN | apply below_drew1 | refine below_set ?_ (by omega))) hb); replace B3 := Aside0.mk (blk_below (g := W.heap.size) (o := .cells #[.slice A0 lots.length c0, .slice A1 samples.length c1, .int .i64 spread, .slice A3 labs.length c3] 26 (0, 0)) (by (with_reducible repeat (first | exact B3.out | refine blk_drewN ?_ _ | refine blk_drew ?_ | refine blk_alloc ?_ _))) hb); clear hb; (try clear p0 p1 p2 p3); (try clear lt_B3); have lt_B3 := blk_lt B3.out; obtain ⟨p0, p1, p2, p3⟩ := cells4 B3.out) | (go_at_call 18; (with_reducible refine (wakes_any _).mono ?_); rintro e w9 ⟨rfl, hb⟩; replace HB := Aside0.mk (below_step (by repeat (first | (with_reducible exact HB.out) | apply below_alloc | apply pw_below_drewN | apply below_drew1 | refine below_set ?_ (by omega))) hb); replace B3 := Aside0.mk (blk_below (g := W.heap.size) (o := .cells #[.slice A0 lots.length c0, .slice A1 samples.length c1, .int .i64 spread, .slice A3 labs.length c3] 26 (0, 0)) (by (with_reducible repeat (first | exact B3.out | refine blk_drewN ?_ _ | refine blk_drew ?_ | refine blk_alloc ?_ _))) hb); clear hb; (try clear p0 p1 p2 p3); (try clear lt_B3); have lt_B3 := blk_lt B3.out; obtain ⟨p0, p1, p2, p3⟩ := cells4 B3.out))
 go_ret
 exact ⟨rfl, HB.out⟩
set_option maxHeartbeats 4000000 in
set_option maxRecDepth 100000 in
theorem alike_fail {W : World} {v : Value} {A0 : Option Addr} {c0 : Nat} {lots : List S44} {A1 : Option Addr} {c1 : Nat} {samples : List Int} {spread : Int} {A3 : Option Addr} {c3 : Nat} {labs : List S62} (h : In26 W v A0 c0 lots A1 c1 samples spread A3 c3 labs) (Aw : Option Addr) (cw : Nat) (words : List Int) (hC : (Kd.int .u16).C W Aw words.length words) (hcw : words.length ≤ cw) (hw : WordsOk words) (lab shift : Int) (hl0 : 0 ≤ lab) (hl1 : lab < 256) (hs0 : -40000 ≤ shift) (hs1 : shift ≤ 40000) (hr : Ev (fun k => tensilelaw08_ready.f k lots samples spread labs) true) (hth : ThinR lots samples labs) (hok : RoundOk (lots.map m46) samples spread (labs.map m75)) (h0 : 0 < labs.length) (k n : Int) (hk : Int.tmod lab (labs.length : Int) = k) (hn : Int.tmod shift 1000 = n) (k0 : 0 ≤ k) (k1 : k < labs.length) (n0 : -1000 < n) (n1 : n < 1000) (lo hi : Int) (hx : shiftsF (lots.map m46) samples spread ((readF lots samples spread labs words (2 ^ k.toNat) n labs.length).map m75) k = (⟨lo, hi⟩, 0)) (l0 : lo ≤ n) (l1 : n ≤ hi) (a b : Bool) (he0 : explainsF (lots.map m46) samples spread (labs.map m75) [] = (a, 0)) (he1 : explainsF (lots.map m46) samples spread (labs.map m75) [k] = (b, 0)) (t0 t1 eh : Int) (ht : shiftsF (lots.map m46) samples spread (labs.map m75) k = (⟨t0, t1⟩, eh)) (hb : b = false) (ha : a = false) (hh : eh = 9) :
  Calls Try.prog 11 #[.agg #[.slice A0 lots.length c0, .slice A1 samples.length c1, .int .i64 spread, .slice A3 labs.length c3], .slice Aw words.length cw, .int .u8 lab, .int .i16 shift] W (RetB W (.bool true)) := by
 have HI := Aside0.mk h
 have HB := Aside0.mk (below_alloc (Below.refl _ W) (.cells #[.slice A0 lots.length c0, .slice A1 samples.length c1, .int .i64 spread, .slice A3 labs.length c3] 26))
 have B3 := Aside0.mk (blk_new W (.cells #[.slice A0 lots.length c0, .slice A1 samples.length c1, .int .i64 spread, .slice A3 labs.length c3] 26))
 obtain ⟨p0, p1, p2, p3⟩ := cells4 B3.out
 have lt_B3 := blk_lt B3.out
 have HRd := Aside0.mk hr
 have HTh := Aside0.mk hth
 have HE0 := Aside0.mk he0
 have HE1 := Aside0.mk he1
 have HT := Aside0.mk ht
 have HS := Aside0.mk hx
 have HThX := Aside0.mk (read_thin (words := words) (bits := 2 ^ k.toNat) (shift := n) hok)
 have h6 : labs.length ≤ 6 := by have := hok.b6; rwa [List.length_map] at this
 have e0 : ((labs.length : Int) == 0) = false := beq_eq_false_iff_ne.2 (by omega)
 have e1 : IntKind.i64.wrap lab = lab := IntWalk.i64_in _ (by omega)
 have e2 : IntKind.i64.wrap shift = shift := IntWalk.i64_in _ (by omega)
 have e3 : IntKind.u64.wrap k = k := IntWalk.u64_in _ (by omega)
 have p2 : (2 : Int) ^ k.toNat < 256 ∧ 0 ≤ (2 : Int) ^ k.toNat := by
  have : k.toNat < 6 := by omega
  generalize k.toNat = j at this
  match j, this with
  | 0, _ | 1, _ | 2, _ | 3, _ | 4, _ | 5, _ => decide
 have e4 : IntKind.u8.wrap (2 ^ k.toNat) = 2 ^ k.toNat := IntWalk.u8_in _ (by omega)
 have HRead := Aside0.mk (fun W' (h' : In26 W' v A0 c0 lots A1 c1 samples spread A3 c3 labs) (hC' : (Kd.int .u16).C W' Aw words.length words) => read_at h' hok Aw cw words hC' hcw hw (2 ^ k.toNat) n (by omega) (by omega) p2.2 p2.1)
 have HCw := Aside0.mk hC
 generalize readF lots samples spread labs words (2 ^ k.toNat) n labs.length = L at HRead HS HThX
 clear h hr hth hok hC he0 he1 ht hx hs0 hs1 p2
 go_enter Try.func11, Try.ntmps11
 go_wp2_with (first | (go_at_call 35; (with_reducible refine (ready_at (HI.out.below (by repeat (first | (with_reducible exact HB.out) | apply below_alloc | apply pw_below_drewN | apply below_drew1 | refine below_set ?_ (by omega)))) HRd.out).mono ?_); rintro e w1 ⟨rfl, hb⟩; replace HB := Aside0.mk (below_step (by repeat (first | (with_reducible exact HB.out) | apply below_alloc | apply pw_below_drewN | apply below_drew1 | refine below_set ?_ (by omega))) hb); replace B3 := Aside0.mk (blk_below (g := W.heap.size) (o := .cells #[.slice A0 lots.length c0, .slice A1 samples.length c1, .int .i64 spread, .slice A3 labs.length c3] 26 (0, 0)) (by (with_reducible repeat (first | exact B3.out | refine blk_drewN ?_ _ | refine blk_drew ?_ | refine blk_alloc ?_ _))) hb); clear hb; (try clear p0 p1 p2 p3); (try clear lt_B3); have lt_B3 := blk_lt B3.out; obtain ⟨p0, p1, p2, p3⟩ := cells4 B3.out) | (go_at_call 37; refine Aside0.out ?_))
 refine ⟨?_⟩
 refine (HRead.out _ (HI.out.below (by repeat (first | (with_reducible exact HB.out) | apply below_alloc | apply pw_below_drewN | apply below_drew1 | refine below_set ?_ (by omega)))) (Kd.C_below HCw.out (by repeat (first | (with_reducible exact HB.out) | apply below_alloc | apply pw_below_drewN | apply below_drew1 | refine below_set ?_ (by omega))))).mono ?_
 rintro e w2 ⟨Ar, cr, rfl, hIn, hb⟩
 have HX := Aside0.mk hIn
 replace HB := Aside0.mk (below_step (by repeat (first | (with_reducible exact HB.out) | apply below_alloc | apply pw_below_drewN | apply below_drew1 | refine below_set ?_ (by omega))) hb)
 replace B3 := Aside0.mk (blk_below (g := W.heap.size) (o := .cells #[.slice A0 lots.length c0, .slice A1 samples.length c1, .int .i64 spread, .slice A3 labs.length c3] 26 (0, 0)) (by (with_reducible repeat (first | exact B3.out | refine blk_drewN ?_ _ | refine blk_drew ?_ | refine blk_alloc ?_ _))) hb)
 clear hb
 (try clear p0 p1 p2 p3)
 (try clear lt_B3)
 have lt_B3 := blk_lt B3.out
 obtain ⟨p0, p1, p2, p3⟩ := cells4 B3.out
 clear hIn HRead HCw
 have BX := Aside0.mk (blk_new w2 (.cells #[.slice A0 lots.length c0, .slice A1 samples.length c1, .int .i64 spread, .slice Ar L.length cr] 26))
 obtain ⟨x0, x1, x2, x3⟩ := cells4 BX.out
 have lt_BX := blk_lt BX.out
 go_wp2_with (first | (go_at_call 20; (with_reducible refine (round_at (HX.out.below (by repeat (first | (with_reducible exact Below.refl _ _) | apply below_alloc | apply pw_below_drewN | apply below_drew1))) HThX.out).mono ?_); rintro e w4 ⟨u, rfl, hu, hb⟩; have HU := Aside0.mk hu; clear hu; replace HB := Aside0.mk (below_step (by repeat (first | (with_reducible exact HB.out) | apply below_alloc | apply pw_below_drewN | apply below_drew1 | refine below_set ?_ (by omega))) hb); replace B3 := Aside0.mk (blk_below (g := W.heap.size) (o := .cells #[.slice A0 lots.length c0, .slice A1 samples.length c1, .int .i64 spread, .slice A3 labs.length c3] 26 (0, 0)) (by (with_reducible repeat (first | exact B3.out | refine blk_drewN ?_ _ | refine blk_drew ?_ | refine blk_alloc ?_ _))) hb); replace BX := Aside0.mk (blk_below (g := w2.heap.size) (o := .cells #[.slice A0 lots.length c0, .slice A1 samples.length c1, .int .i64 spread, .slice Ar L.length cr] 26 (0, 0)) (by (with_reducible repeat (first | exact BX.out | refine blk_drewN ?_ _ | refine blk_drew ?_ | refine blk_alloc ?_ _))) hb); clear hb; (try clear p0 p1 p2 p3); (try clear lt_B3); have lt_B3 := blk_lt B3.out; obtain ⟨p0, p1, p2, p3⟩ := cells4 B3.out; (try clear x0 x1 x2 x3); (try clear lt_BX); have lt_BX := blk_lt BX.out; obtain ⟨x0, x1, x2, x3⟩ := cells4 BX.out) | (go_at_call 32; refine Aside0.out ?_))
 refine ⟨?_⟩
 refine (shifts_at HU.out k).mono ?_
 rw [HS.out]
 rintro e w5 ⟨rfl, hb⟩
 replace HB := Aside0.mk (below_step (by repeat (first | (with_reducible exact HB.out) | apply below_alloc | apply pw_below_drewN | apply below_drew1 | refine below_set ?_ (by omega))) hb)
 replace B3 := Aside0.mk (blk_below (g := W.heap.size) (o := .cells #[.slice A0 lots.length c0, .slice A1 samples.length c1, .int .i64 spread, .slice A3 labs.length c3] 26 (0, 0)) (by (with_reducible repeat (first | exact B3.out | refine blk_drewN ?_ _ | refine blk_drew ?_ | refine blk_alloc ?_ _))) hb)
 replace BX := Aside0.mk (blk_below (g := w2.heap.size) (o := .cells #[.slice A0 lots.length c0, .slice A1 samples.length c1, .int .i64 spread, .slice Ar L.length cr] 26 (0, 0)) (by (with_reducible repeat (first | exact BX.out | refine blk_drewN ?_ _ | refine blk_drew ?_ | refine blk_alloc ?_ _))) hb)
 clear hb
 (try clear p0 p1 p2 p3)
 (try clear lt_B3)
 have lt_B3 := blk_lt B3.out
 obtain ⟨p0, p1, p2, p3⟩ := cells4 B3.out
 (try clear x0 x1 x2 x3)
 (try clear lt_BX)
 have lt_BX := blk_lt BX.out
 obtain ⟨x0, x1, x2, x3⟩ := cells4 BX.out
 clear HU HX BX x0 x1 x2 x3 lt_BX HThX HS
 have BS := Aside0.mk (blk_new w5 (.cells #[.int .i64 lo, .int .i64 hi] 46))
 obtain ⟨q0, q1⟩ := cells2 BS.out
 have lt_BS := blk_lt BS.out
 have f1 : decide (n < lo) = false := decide_eq_false (by omega)
 have f2 : decide (hi < n) = false := decide_eq_false (by omega)
 go_wp2_with (first | (go_at_call 20; (with_reducible refine (round_at (HI.out.below (by repeat (first | (with_reducible exact HB.out) | apply below_alloc | apply pw_below_drewN | apply below_drew1 | refine below_set ?_ (by omega)))) HTh.out).mono ?_); rintro e w6 ⟨u, rfl, hu, hb⟩; have HU := Aside0.mk hu; clear hu; replace HB := Aside0.mk (below_step (by repeat (first | (with_reducible exact HB.out) | apply below_alloc | apply pw_below_drewN | apply below_drew1 | refine below_set ?_ (by omega))) hb); replace B3 := Aside0.mk (blk_below (g := W.heap.size) (o := .cells #[.slice A0 lots.length c0, .slice A1 samples.length c1, .int .i64 spread, .slice A3 labs.length c3] 26 (0, 0)) (by (with_reducible repeat (first | exact B3.out | refine blk_drewN ?_ _ | refine blk_drew ?_ | refine blk_alloc ?_ _))) hb); replace BS := Aside0.mk (blk_below (g := w5.heap.size) (o := .cells #[.int .i64 lo, .int .i64 hi] 46 (0, 0)) (by (with_reducible repeat (first | exact BS.out | refine blk_drewN ?_ _ | refine blk_drew ?_ | refine blk_alloc ?_ _))) hb); clear hb; (try clear p0 p1 p2 p3); (try clear lt_B3); have lt_B3 := blk_lt B3.out; obtain ⟨p0, p1, p2, p3⟩ := cells4 B3.out; (try clear q0 q1); (try clear lt_BS); have lt_BS := blk_lt BS.out; obtain ⟨q0, q1⟩ := cells2 BS.out) | (go_at_call 21; first | ((with_reducible refine (explains_at (l := []) (HU.out.below (by repeat (first | (with_reducible exact Below.refl _ _) | apply below_alloc | apply pw_below_drewN | apply below_drew1))) (InL.nil _) (by simp)).mono ?_); (rw [HE0.out]); rintro e w7 ⟨rfl, hb⟩; clear HU; replace HB := Aside0.mk (below_step (by repeat (first | (with_reducible exact HB.out) | apply below_alloc | apply pw_below_drewN | apply below_drew1 | refine below_set ?_ (by omega))) hb); replace B3 := Aside0.mk (blk_below (g := W.heap.size) (o := .cells #[.slice A0 lots.length c0, .slice A1 samples.length c1, .int .i64 spread, .slice A3 labs.length c3] 26 (0, 0)) (by (with_reducible repeat (first | exact B3.out | refine blk_drewN ?_ _ | refine blk_drew ?_ | refine blk_alloc ?_ _))) hb); replace BS := Aside0.mk (blk_below (g := w5.heap.size) (o := .cells #[.int .i64 lo, .int .i64 hi] 46 (0, 0)) (by (with_reducible repeat (first | exact BS.out | refine blk_drewN ?_ _ | refine blk_drew ?_ | refine blk_alloc ?_ _))) hb); clear hb; (try clear p0 p1 p2 p3); (try clear lt_B3); have lt_B3 := blk_lt B3.out; obtain ⟨p0, p1, p2, p3⟩ := cells4 B3.out; (try clear q0 q1); (try clear lt_BS); have lt_BS := blk_lt BS.out; obtain ⟨q0, q1⟩ := cells2 BS.out) | ((with_reducible refine (explains_at (l := [k]) (HU.out.below (by repeat (first | (with_reducible exact Below.refl _ _) | apply below_alloc | apply pw_below_drewN | apply below_drew1))) (InL.one (by first | exact blk_new _ _ | exact blk_new' (by simp))) (by simp)).mono ?_); (rw [HE1.out]); rintro e w7 ⟨rfl, hb⟩; clear HU; replace HB := Aside0.mk (below_step (by repeat (first | (with_reducible exact HB.out) | apply below_alloc | apply pw_below_drewN | apply below_drew1 | refine below_set ?_ (by omega))) hb); replace B3 := Aside0.mk (blk_below (g := W.heap.size) (o := .cells #[.slice A0 lots.length c0, .slice A1 samples.length c1, .int .i64 spread, .slice A3 labs.length c3] 26 (0, 0)) (by (with_reducible repeat (first | exact B3.out | refine blk_drewN ?_ _ | refine blk_drew ?_ | refine blk_alloc ?_ _))) hb); replace BS := Aside0.mk (blk_below (g := w5.heap.size) (o := .cells #[.int .i64 lo, .int .i64 hi] 46 (0, 0)) (by (with_reducible repeat (first | exact BS.out | refine blk_drewN ?_ _ | refine blk_drew ?_ | refine blk_alloc ?_ _))) hb); clear hb; (try clear p0 p1 p2 p3); (try clear lt_B3); have lt_B3 := blk_lt B3.out; obtain ⟨p0, p1, p2, p3⟩ := cells4 B3.out; (try clear q0 q1); (try clear lt_BS); have lt_BS := blk_lt BS.out; obtain ⟨q0, q1⟩ := cells2 BS.out)) | (go_at_call 32; refine Aside0.out ?_))
 refine ⟨?_⟩
 refine (shifts_at HU.out k).mono ?_
 rw [HT.out]
 rintro e w8 ⟨rfl, hb⟩
 replace HB := Aside0.mk (below_step (by repeat (first | (with_reducible exact HB.out) | apply below_alloc | apply pw_below_drewN | apply below_drew1 | refine below_set ?_ (by omega))) hb)
 replace B3 := Aside0.mk (blk_below (g := W.heap.size) (o := .cells #[.slice A0 lots.length c0, .slice A1 samples.length c1, .int .i64 spread, .slice A3 labs.length c3] 26 (0, 0)) (by (with_reducible repeat (first | exact B3.out | refine blk_drewN ?_ _ | refine blk_drew ?_ | refine blk_alloc ?_ _))) hb)
 replace BS := Aside0.mk (blk_below (g := w5.heap.size) (o := .cells #[.int .i64 lo, .int .i64 hi] 46 (0, 0)) (by (with_reducible repeat (first | exact BS.out | refine blk_drewN ?_ _ | refine blk_drew ?_ | refine blk_alloc ?_ _))) hb)
 clear hb
 (try clear p0 p1 p2 p3)
 (try clear lt_B3)
 have lt_B3 := blk_lt B3.out
 obtain ⟨p0, p1, p2, p3⟩ := cells4 B3.out
 (try clear q0 q1)
 (try clear lt_BS)
 have lt_BS := blk_lt BS.out
 obtain ⟨q0, q1⟩ := cells2 BS.out
 clear HU
 have BT := Aside0.mk (blk_new w8 (.cells #[.int .i64 t0, .int .i64 t1] 46))
 obtain ⟨r0, r1⟩ := cells2 BT.out
 have lt_BT := blk_lt BT.out
 subst hb ha hh
 go_wp2_with (first | (go_at_call 18; (with_reducible refine (wakes_any _).mono ?_); rintro e w9 ⟨rfl, hb⟩; replace HB := Aside0.mk (below_step (by repeat (first | (with_reducible exact HB.out) | apply below_alloc | apply pw_below_drewN | apply below_drew1 | refine below_set ?_ (by omega))) hb); replace B3 := Aside0.mk (blk_below (g := W.heap.size) (o := .cells #[.slice A0 lots.length c0, .slice A1 samples.length c1, .int .i64 spread, .slice A3 labs.length c3] 26 (0, 0)) (by (with_reducible repeat (first | exact B3.out | refine blk_drewN ?_ _ | refine blk_drew ?_ | refine blk_alloc ?_ _))) hb); replace BS := Aside0.mk (blk_below (g := w5.heap.size) (o := .cells #[.int .i64 lo, .int .i64 hi] 46 (0, 0)) (by (with_reducible repeat (first | exact BS.out | refine blk_drewN ?_ _ | refine blk_drew ?_ | refine blk_alloc ?_ _))) hb); replace BT := Aside0.mk (blk_below (g := w8.heap.size) (o := .cells #[.int .i64 t0, .int .i64 t1] 46 (0, 0)) (by (with_reducible repeat (first | exact BT.out | refine blk_drewN ?_ _ | refine blk_drew ?_ | refine blk_alloc ?_ _))) hb); clear hb; (try clear p0 p1 p2 p3); (try clear lt_B3); have lt_B3 := blk_lt B3.out; obtain ⟨p0, p1, p2, p3⟩ := cells4 B3.out; (try clear q0 q1); (try clear lt_BS); have lt_BS := blk_lt BS.out; obtain ⟨q0, q1⟩ := cells2 BS.out; (try clear r0 r1); (try clear lt_BT); have lt_BT := blk_lt BT.out; obtain ⟨r0, r1⟩ := cells2 BT.out))
 go_ret
 exact ⟨rfl, HB.out⟩
set_option maxHeartbeats 4000000 in
set_option maxRecDepth 100000 in
theorem alike_some1 {W : World} {v : Value} {A0 : Option Addr} {c0 : Nat} {lots : List S44} {A1 : Option Addr} {c1 : Nat} {samples : List Int} {spread : Int} {A3 : Option Addr} {c3 : Nat} {labs : List S62} (h : In26 W v A0 c0 lots A1 c1 samples spread A3 c3 labs) (Aw : Option Addr) (cw : Nat) (words : List Int) (hC : (Kd.int .u16).C W Aw words.length words) (hcw : words.length ≤ cw) (hw : WordsOk words) (lab shift : Int) (hl0 : 0 ≤ lab) (hl1 : lab < 256) (hs0 : -40000 ≤ shift) (hs1 : shift ≤ 40000) (hr : Ev (fun k => tensilelaw08_ready.f k lots samples spread labs) true) (hth : ThinR lots samples labs) (hok : RoundOk (lots.map m46) samples spread (labs.map m75)) (h0 : 0 < labs.length) (k n : Int) (hk : Int.tmod lab (labs.length : Int) = k) (hn : Int.tmod shift 1000 = n) (k0 : 0 ≤ k) (k1 : k < labs.length) (n0 : -1000 < n) (n1 : n < 1000) (lo hi : Int) (hx : shiftsF (lots.map m46) samples spread ((readF lots samples spread labs words (2 ^ k.toNat) n labs.length).map m75) k = (⟨lo, hi⟩, 0)) (l0 : lo ≤ n) (l1 : n ≤ hi) (a b : Bool) (he0 : explainsF (lots.map m46) samples spread (labs.map m75) [] = (a, 0)) (he1 : explainsF (lots.map m46) samples spread (labs.map m75) [k] = (b, 0)) (t0 t1 eh : Int) (ht : shiftsF (lots.map m46) samples spread (labs.map m75) k = (⟨t0, t1⟩, eh)) (hb : b = true) (hh : eh = 0) (g0 : t0 ≤ 0) (g1 : 0 ≤ t1) (ha : a = true) :
  Calls Try.prog 11 #[.agg #[.slice A0 lots.length c0, .slice A1 samples.length c1, .int .i64 spread, .slice A3 labs.length c3], .slice Aw words.length cw, .int .u8 lab, .int .i16 shift] W (RetB W (.bool true)) := by
 have HI := Aside0.mk h
 have HB := Aside0.mk (below_alloc (Below.refl _ W) (.cells #[.slice A0 lots.length c0, .slice A1 samples.length c1, .int .i64 spread, .slice A3 labs.length c3] 26))
 have B3 := Aside0.mk (blk_new W (.cells #[.slice A0 lots.length c0, .slice A1 samples.length c1, .int .i64 spread, .slice A3 labs.length c3] 26))
 obtain ⟨p0, p1, p2, p3⟩ := cells4 B3.out
 have lt_B3 := blk_lt B3.out
 have HRd := Aside0.mk hr
 have HTh := Aside0.mk hth
 have HE0 := Aside0.mk he0
 have HE1 := Aside0.mk he1
 have HT := Aside0.mk ht
 have HS := Aside0.mk hx
 have HThX := Aside0.mk (read_thin (words := words) (bits := 2 ^ k.toNat) (shift := n) hok)
 have h6 : labs.length ≤ 6 := by have := hok.b6; rwa [List.length_map] at this
 have e0 : ((labs.length : Int) == 0) = false := beq_eq_false_iff_ne.2 (by omega)
 have e1 : IntKind.i64.wrap lab = lab := IntWalk.i64_in _ (by omega)
 have e2 : IntKind.i64.wrap shift = shift := IntWalk.i64_in _ (by omega)
 have e3 : IntKind.u64.wrap k = k := IntWalk.u64_in _ (by omega)
 have p2 : (2 : Int) ^ k.toNat < 256 ∧ 0 ≤ (2 : Int) ^ k.toNat := by
  have : k.toNat < 6 := by omega
  generalize k.toNat = j at this
  match j, this with
  | 0, _ | 1, _ | 2, _ | 3, _ | 4, _ | 5, _ => decide
 have e4 : IntKind.u8.wrap (2 ^ k.toNat) = 2 ^ k.toNat := IntWalk.u8_in _ (by omega)
 have HRead := Aside0.mk (fun W' (h' : In26 W' v A0 c0 lots A1 c1 samples spread A3 c3 labs) (hC' : (Kd.int .u16).C W' Aw words.length words) => read_at h' hok Aw cw words hC' hcw hw (2 ^ k.toNat) n (by omega) (by omega) p2.2 p2.1)
 have HCw := Aside0.mk hC
 generalize readF lots samples spread labs words (2 ^ k.toNat) n labs.length = L at HRead HS HThX
 clear h hr hth hok hC he0 he1 ht hx hs0 hs1 p2
 go_enter Try.func11, Try.ntmps11
 go_wp2_with (first | (go_at_call 35; (with_reducible refine (ready_at (HI.out.below (by repeat (first | (with_reducible exact HB.out) | apply below_alloc | apply pw_below_drewN | apply below_drew1 | refine below_set ?_ (by omega)))) HRd.out).mono ?_); rintro e w1 ⟨rfl, hb⟩; replace HB := Aside0.mk (below_step (by repeat (first | (with_reducible exact HB.out) | apply below_alloc | apply pw_below_drewN | apply below_drew1 | refine below_set ?_ (by omega))) hb); replace B3 := Aside0.mk (blk_below (g := W.heap.size) (o := .cells #[.slice A0 lots.length c0, .slice A1 samples.length c1, .int .i64 spread, .slice A3 labs.length c3] 26 (0, 0)) (by (with_reducible repeat (first | exact B3.out | refine blk_drewN ?_ _ | refine blk_drew ?_ | refine blk_alloc ?_ _))) hb); clear hb; (try clear p0 p1 p2 p3); (try clear lt_B3); have lt_B3 := blk_lt B3.out; obtain ⟨p0, p1, p2, p3⟩ := cells4 B3.out) | (go_at_call 37; refine Aside0.out ?_))
 refine ⟨?_⟩
 refine (HRead.out _ (HI.out.below (by repeat (first | (with_reducible exact HB.out) | apply below_alloc | apply pw_below_drewN | apply below_drew1 | refine below_set ?_ (by omega)))) (Kd.C_below HCw.out (by repeat (first | (with_reducible exact HB.out) | apply below_alloc | apply pw_below_drewN | apply below_drew1 | refine below_set ?_ (by omega))))).mono ?_
 rintro e w2 ⟨Ar, cr, rfl, hIn, hb⟩
 have HX := Aside0.mk hIn
 replace HB := Aside0.mk (below_step (by repeat (first | (with_reducible exact HB.out) | apply below_alloc | apply pw_below_drewN | apply below_drew1 | refine below_set ?_ (by omega))) hb)
 replace B3 := Aside0.mk (blk_below (g := W.heap.size) (o := .cells #[.slice A0 lots.length c0, .slice A1 samples.length c1, .int .i64 spread, .slice A3 labs.length c3] 26 (0, 0)) (by (with_reducible repeat (first | exact B3.out | refine blk_drewN ?_ _ | refine blk_drew ?_ | refine blk_alloc ?_ _))) hb)
 clear hb
 (try clear p0 p1 p2 p3)
 (try clear lt_B3)
 have lt_B3 := blk_lt B3.out
 obtain ⟨p0, p1, p2, p3⟩ := cells4 B3.out
 clear hIn HRead HCw
 have BX := Aside0.mk (blk_new w2 (.cells #[.slice A0 lots.length c0, .slice A1 samples.length c1, .int .i64 spread, .slice Ar L.length cr] 26))
 obtain ⟨x0, x1, x2, x3⟩ := cells4 BX.out
 have lt_BX := blk_lt BX.out
 go_wp2_with (first | (go_at_call 20; (with_reducible refine (round_at (HX.out.below (by repeat (first | (with_reducible exact Below.refl _ _) | apply below_alloc | apply pw_below_drewN | apply below_drew1))) HThX.out).mono ?_); rintro e w4 ⟨u, rfl, hu, hb⟩; have HU := Aside0.mk hu; clear hu; replace HB := Aside0.mk (below_step (by repeat (first | (with_reducible exact HB.out) | apply below_alloc | apply pw_below_drewN | apply below_drew1 | refine below_set ?_ (by omega))) hb); replace B3 := Aside0.mk (blk_below (g := W.heap.size) (o := .cells #[.slice A0 lots.length c0, .slice A1 samples.length c1, .int .i64 spread, .slice A3 labs.length c3] 26 (0, 0)) (by (with_reducible repeat (first | exact B3.out | refine blk_drewN ?_ _ | refine blk_drew ?_ | refine blk_alloc ?_ _))) hb); replace BX := Aside0.mk (blk_below (g := w2.heap.size) (o := .cells #[.slice A0 lots.length c0, .slice A1 samples.length c1, .int .i64 spread, .slice Ar L.length cr] 26 (0, 0)) (by (with_reducible repeat (first | exact BX.out | refine blk_drewN ?_ _ | refine blk_drew ?_ | refine blk_alloc ?_ _))) hb); clear hb; (try clear p0 p1 p2 p3); (try clear lt_B3); have lt_B3 := blk_lt B3.out; obtain ⟨p0, p1, p2, p3⟩ := cells4 B3.out; (try clear x0 x1 x2 x3); (try clear lt_BX); have lt_BX := blk_lt BX.out; obtain ⟨x0, x1, x2, x3⟩ := cells4 BX.out) | (go_at_call 32; refine Aside0.out ?_))
 refine ⟨?_⟩
 refine (shifts_at HU.out k).mono ?_
 rw [HS.out]
 rintro e w5 ⟨rfl, hb⟩
 replace HB := Aside0.mk (below_step (by repeat (first | (with_reducible exact HB.out) | apply below_alloc | apply pw_below_drewN | apply below_drew1 | refine below_set ?_ (by omega))) hb)
 replace B3 := Aside0.mk (blk_below (g := W.heap.size) (o := .cells #[.slice A0 lots.length c0, .slice A1 samples.length c1, .int .i64 spread, .slice A3 labs.length c3] 26 (0, 0)) (by (with_reducible repeat (first | exact B3.out | refine blk_drewN ?_ _ | refine blk_drew ?_ | refine blk_alloc ?_ _))) hb)
 replace BX := Aside0.mk (blk_below (g := w2.heap.size) (o := .cells #[.slice A0 lots.length c0, .slice A1 samples.length c1, .int .i64 spread, .slice Ar L.length cr] 26 (0, 0)) (by (with_reducible repeat (first | exact BX.out | refine blk_drewN ?_ _ | refine blk_drew ?_ | refine blk_alloc ?_ _))) hb)
 clear hb
 (try clear p0 p1 p2 p3)
 (try clear lt_B3)
 have lt_B3 := blk_lt B3.out
 obtain ⟨p0, p1, p2, p3⟩ := cells4 B3.out
 (try clear x0 x1 x2 x3)
 (try clear lt_BX)
 have lt_BX := blk_lt BX.out
 obtain ⟨x0, x1, x2, x3⟩ := cells4 BX.out
 clear HU HX BX x0 x1 x2 x3 lt_BX HThX HS
 have BS := Aside0.mk (blk_new w5 (.cells #[.int .i64 lo, .int .i64 hi] 46))
 obtain ⟨q0, q1⟩ := cells2 BS.out
 have lt_BS := blk_lt BS.out
 have f1 : decide (n < lo) = false := decide_eq_false (by omega)
 have f2 : decide (hi < n) = false := decide_eq_false (by omega)
 go_wp2_with (first | (go_at_call 20; (with_reducible refine (round_at (HI.out.below (by repeat (first | (with_reducible exact HB.out) | apply below_alloc | apply pw_below_drewN | apply below_drew1 | refine below_set ?_ (by omega)))) HTh.out).mono ?_); rintro e w6 ⟨u, rfl, hu, hb⟩; have HU := Aside0.mk hu; clear hu; replace HB := Aside0.mk (below_step (by repeat (first | (with_reducible exact HB.out) | apply below_alloc | apply pw_below_drewN | apply below_drew1 | refine below_set ?_ (by omega))) hb); replace B3 := Aside0.mk (blk_below (g := W.heap.size) (o := .cells #[.slice A0 lots.length c0, .slice A1 samples.length c1, .int .i64 spread, .slice A3 labs.length c3] 26 (0, 0)) (by (with_reducible repeat (first | exact B3.out | refine blk_drewN ?_ _ | refine blk_drew ?_ | refine blk_alloc ?_ _))) hb); replace BS := Aside0.mk (blk_below (g := w5.heap.size) (o := .cells #[.int .i64 lo, .int .i64 hi] 46 (0, 0)) (by (with_reducible repeat (first | exact BS.out | refine blk_drewN ?_ _ | refine blk_drew ?_ | refine blk_alloc ?_ _))) hb); clear hb; (try clear p0 p1 p2 p3); (try clear lt_B3); have lt_B3 := blk_lt B3.out; obtain ⟨p0, p1, p2, p3⟩ := cells4 B3.out; (try clear q0 q1); (try clear lt_BS); have lt_BS := blk_lt BS.out; obtain ⟨q0, q1⟩ := cells2 BS.out) | (go_at_call 21; first | ((with_reducible refine (explains_at (l := []) (HU.out.below (by repeat (first | (with_reducible exact Below.refl _ _) | apply below_alloc | apply pw_below_drewN | apply below_drew1))) (InL.nil _) (by simp)).mono ?_); (rw [HE0.out]); rintro e w7 ⟨rfl, hb⟩; clear HU; replace HB := Aside0.mk (below_step (by repeat (first | (with_reducible exact HB.out) | apply below_alloc | apply pw_below_drewN | apply below_drew1 | refine below_set ?_ (by omega))) hb); replace B3 := Aside0.mk (blk_below (g := W.heap.size) (o := .cells #[.slice A0 lots.length c0, .slice A1 samples.length c1, .int .i64 spread, .slice A3 labs.length c3] 26 (0, 0)) (by (with_reducible repeat (first | exact B3.out | refine blk_drewN ?_ _ | refine blk_drew ?_ | refine blk_alloc ?_ _))) hb); replace BS := Aside0.mk (blk_below (g := w5.heap.size) (o := .cells #[.int .i64 lo, .int .i64 hi] 46 (0, 0)) (by (with_reducible repeat (first | exact BS.out | refine blk_drewN ?_ _ | refine blk_drew ?_ | refine blk_alloc ?_ _))) hb); clear hb; (try clear p0 p1 p2 p3); (try clear lt_B3); have lt_B3 := blk_lt B3.out; obtain ⟨p0, p1, p2, p3⟩ := cells4 B3.out; (try clear q0 q1); (try clear lt_BS); have lt_BS := blk_lt BS.out; obtain ⟨q0, q1⟩ := cells2 BS.out) | ((with_reducible refine (explains_at (l := [k]) (HU.out.below (by repeat (first | (with_reducible exact Below.refl _ _) | apply below_alloc | apply pw_below_drewN | apply below_drew1))) (InL.one (by first | exact blk_new _ _ | exact blk_new' (by simp))) (by simp)).mono ?_); (rw [HE1.out]); rintro e w7 ⟨rfl, hb⟩; clear HU; replace HB := Aside0.mk (below_step (by repeat (first | (with_reducible exact HB.out) | apply below_alloc | apply pw_below_drewN | apply below_drew1 | refine below_set ?_ (by omega))) hb); replace B3 := Aside0.mk (blk_below (g := W.heap.size) (o := .cells #[.slice A0 lots.length c0, .slice A1 samples.length c1, .int .i64 spread, .slice A3 labs.length c3] 26 (0, 0)) (by (with_reducible repeat (first | exact B3.out | refine blk_drewN ?_ _ | refine blk_drew ?_ | refine blk_alloc ?_ _))) hb); replace BS := Aside0.mk (blk_below (g := w5.heap.size) (o := .cells #[.int .i64 lo, .int .i64 hi] 46 (0, 0)) (by (with_reducible repeat (first | exact BS.out | refine blk_drewN ?_ _ | refine blk_drew ?_ | refine blk_alloc ?_ _))) hb); clear hb; (try clear p0 p1 p2 p3); (try clear lt_B3); have lt_B3 := blk_lt B3.out; obtain ⟨p0, p1, p2, p3⟩ := cells4 B3.out; (try clear q0 q1); (try clear lt_BS); have lt_BS := blk_lt BS.out; obtain ⟨q0, q1⟩ := cells2 BS.out)) | (go_at_call 32; refine Aside0.out ?_))
 refine ⟨?_⟩
 refine (shifts_at HU.out k).mono ?_
 rw [HT.out]
 rintro e w8 ⟨rfl, hb⟩
 replace HB := Aside0.mk (below_step (by repeat (first | (with_reducible exact HB.out) | apply below_alloc | apply pw_below_drewN | apply below_drew1 | refine below_set ?_ (by omega))) hb)
 replace B3 := Aside0.mk (blk_below (g := W.heap.size) (o := .cells #[.slice A0 lots.length c0, .slice A1 samples.length c1, .int .i64 spread, .slice A3 labs.length c3] 26 (0, 0)) (by (with_reducible repeat (first | exact B3.out | refine blk_drewN ?_ _ | refine blk_drew ?_ | refine blk_alloc ?_ _))) hb)
 replace BS := Aside0.mk (blk_below (g := w5.heap.size) (o := .cells #[.int .i64 lo, .int .i64 hi] 46 (0, 0)) (by (with_reducible repeat (first | exact BS.out | refine blk_drewN ?_ _ | refine blk_drew ?_ | refine blk_alloc ?_ _))) hb)
 clear hb
 (try clear p0 p1 p2 p3)
 (try clear lt_B3)
 have lt_B3 := blk_lt B3.out
 obtain ⟨p0, p1, p2, p3⟩ := cells4 B3.out
 (try clear q0 q1)
 (try clear lt_BS)
 have lt_BS := blk_lt BS.out
 obtain ⟨q0, q1⟩ := cells2 BS.out
 clear HU
 have BT := Aside0.mk (blk_new w8 (.cells #[.int .i64 t0, .int .i64 t1] 46))
 obtain ⟨r0, r1⟩ := cells2 BT.out
 have lt_BT := blk_lt BT.out
 subst hb hh ha
 replace g0 := decide_eq_true g0
 replace g1 : decide (0 ≤ t1) = true := decide_eq_true g1
 go_wp2_with (first | (go_at_call 18; (with_reducible refine (wakes_any _).mono ?_); rintro e w9 ⟨rfl, hb⟩; replace HB := Aside0.mk (below_step (by repeat (first | (with_reducible exact HB.out) | apply below_alloc | apply pw_below_drewN | apply below_drew1 | refine below_set ?_ (by omega))) hb); replace B3 := Aside0.mk (blk_below (g := W.heap.size) (o := .cells #[.slice A0 lots.length c0, .slice A1 samples.length c1, .int .i64 spread, .slice A3 labs.length c3] 26 (0, 0)) (by (with_reducible repeat (first | exact B3.out | refine blk_drewN ?_ _ | refine blk_drew ?_ | refine blk_alloc ?_ _))) hb); replace BS := Aside0.mk (blk_below (g := w5.heap.size) (o := .cells #[.int .i64 lo, .int .i64 hi] 46 (0, 0)) (by (with_reducible repeat (first | exact BS.out | refine blk_drewN ?_ _ | refine blk_drew ?_ | refine blk_alloc ?_ _))) hb); replace BT := Aside0.mk (blk_below (g := w8.heap.size) (o := .cells #[.int .i64 t0, .int .i64 t1] 46 (0, 0)) (by (with_reducible repeat (first | exact BT.out | refine blk_drewN ?_ _ | refine blk_drew ?_ | refine blk_alloc ?_ _))) hb); clear hb; (try clear p0 p1 p2 p3); (try clear lt_B3); have lt_B3 := blk_lt B3.out; obtain ⟨p0, p1, p2, p3⟩ := cells4 B3.out; (try clear q0 q1); (try clear lt_BS); have lt_BS := blk_lt BS.out; obtain ⟨q0, q1⟩ := cells2 BS.out; (try clear r0 r1); (try clear lt_BT); have lt_BT := blk_lt BT.out; obtain ⟨r0, r1⟩ := cells2 BT.out))
 go_ret
 exact ⟨rfl, HB.out⟩
set_option maxHeartbeats 4000000 in
set_option maxRecDepth 100000 in
theorem alike_some2 {W : World} {v : Value} {A0 : Option Addr} {c0 : Nat} {lots : List S44} {A1 : Option Addr} {c1 : Nat} {samples : List Int} {spread : Int} {A3 : Option Addr} {c3 : Nat} {labs : List S62} (h : In26 W v A0 c0 lots A1 c1 samples spread A3 c3 labs) (Aw : Option Addr) (cw : Nat) (words : List Int) (hC : (Kd.int .u16).C W Aw words.length words) (hcw : words.length ≤ cw) (hw : WordsOk words) (lab shift : Int) (hl0 : 0 ≤ lab) (hl1 : lab < 256) (hs0 : -40000 ≤ shift) (hs1 : shift ≤ 40000) (hr : Ev (fun k => tensilelaw08_ready.f k lots samples spread labs) true) (hth : ThinR lots samples labs) (hok : RoundOk (lots.map m46) samples spread (labs.map m75)) (h0 : 0 < labs.length) (k n : Int) (hk : Int.tmod lab (labs.length : Int) = k) (hn : Int.tmod shift 1000 = n) (k0 : 0 ≤ k) (k1 : k < labs.length) (n0 : -1000 < n) (n1 : n < 1000) (lo hi : Int) (hx : shiftsF (lots.map m46) samples spread ((readF lots samples spread labs words (2 ^ k.toNat) n labs.length).map m75) k = (⟨lo, hi⟩, 0)) (l0 : lo ≤ n) (l1 : n ≤ hi) (a b : Bool) (he0 : explainsF (lots.map m46) samples spread (labs.map m75) [] = (a, 0)) (he1 : explainsF (lots.map m46) samples spread (labs.map m75) [k] = (b, 0)) (t0 t1 eh : Int) (ht : shiftsF (lots.map m46) samples spread (labs.map m75) k = (⟨t0, t1⟩, eh)) (hb : b = true) (hh : eh = 0) (g0 : t0 ≤ 0) (g1 : ¬ 0 ≤ t1) (ha : a = false) :
  Calls Try.prog 11 #[.agg #[.slice A0 lots.length c0, .slice A1 samples.length c1, .int .i64 spread, .slice A3 labs.length c3], .slice Aw words.length cw, .int .u8 lab, .int .i16 shift] W (RetB W (.bool true)) := by
 have HI := Aside0.mk h
 have HB := Aside0.mk (below_alloc (Below.refl _ W) (.cells #[.slice A0 lots.length c0, .slice A1 samples.length c1, .int .i64 spread, .slice A3 labs.length c3] 26))
 have B3 := Aside0.mk (blk_new W (.cells #[.slice A0 lots.length c0, .slice A1 samples.length c1, .int .i64 spread, .slice A3 labs.length c3] 26))
 obtain ⟨p0, p1, p2, p3⟩ := cells4 B3.out
 have lt_B3 := blk_lt B3.out
 have HRd := Aside0.mk hr
 have HTh := Aside0.mk hth
 have HE0 := Aside0.mk he0
 have HE1 := Aside0.mk he1
 have HT := Aside0.mk ht
 have HS := Aside0.mk hx
 have HThX := Aside0.mk (read_thin (words := words) (bits := 2 ^ k.toNat) (shift := n) hok)
 have h6 : labs.length ≤ 6 := by have := hok.b6; rwa [List.length_map] at this
 have e0 : ((labs.length : Int) == 0) = false := beq_eq_false_iff_ne.2 (by omega)
 have e1 : IntKind.i64.wrap lab = lab := IntWalk.i64_in _ (by omega)
 have e2 : IntKind.i64.wrap shift = shift := IntWalk.i64_in _ (by omega)
 have e3 : IntKind.u64.wrap k = k := IntWalk.u64_in _ (by omega)
 have p2 : (2 : Int) ^ k.toNat < 256 ∧ 0 ≤ (2 : Int) ^ k.toNat := by
  have : k.toNat < 6 := by omega
  generalize k.toNat = j at this
  match j, this with
  | 0, _ | 1, _ | 2, _ | 3, _ | 4, _ | 5, _ => decide
 have e4 : IntKind.u8.wrap (2 ^ k.toNat) = 2 ^ k.toNat := IntWalk.u8_in _ (by omega)
 have HRead := Aside0.mk (fun W' (h' : In26 W' v A0 c0 lots A1 c1 samples spread A3 c3 labs) (hC' : (Kd.int .u16).C W' Aw words.length words) => read_at h' hok Aw cw words hC' hcw hw (2 ^ k.toNat) n (by omega) (by omega) p2.2 p2.1)
 have HCw := Aside0.mk hC
 generalize readF lots samples spread labs words (2 ^ k.toNat) n labs.length = L at HRead HS HThX
 clear h hr hth hok hC he0 he1 ht hx hs0 hs1 p2
 go_enter Try.func11, Try.ntmps11
 go_wp2_with (first | (go_at_call 35; (with_reducible refine (ready_at (HI.out.below (by repeat (first | (with_reducible exact HB.out) | apply below_alloc | apply pw_below_drewN | apply below_drew1 | refine below_set ?_ (by omega)))) HRd.out).mono ?_); rintro e w1 ⟨rfl, hb⟩; replace HB := Aside0.mk (below_step (by repeat (first | (with_reducible exact HB.out) | apply below_alloc | apply pw_below_drewN | apply below_drew1 | refine below_set ?_ (by omega))) hb); replace B3 := Aside0.mk (blk_below (g := W.heap.size) (o := .cells #[.slice A0 lots.length c0, .slice A1 samples.length c1, .int .i64 spread, .slice A3 labs.length c3] 26 (0, 0)) (by (with_reducible repeat (first | exact B3.out | refine blk_drewN ?_ _ | refine blk_drew ?_ | refine blk_alloc ?_ _))) hb); clear hb; (try clear p0 p1 p2 p3); (try clear lt_B3); have lt_B3 := blk_lt B3.out; obtain ⟨p0, p1, p2, p3⟩ := cells4 B3.out) | (go_at_call 37; refine Aside0.out ?_))
 refine ⟨?_⟩
 refine (HRead.out _ (HI.out.below (by repeat (first | (with_reducible exact HB.out) | apply below_alloc | apply pw_below_drewN | apply below_drew1 | refine below_set ?_ (by omega)))) (Kd.C_below HCw.out (by repeat (first | (with_reducible exact HB.out) | apply below_alloc | apply pw_below_drewN | apply below_drew1 | refine below_set ?_ (by omega))))).mono ?_
 rintro e w2 ⟨Ar, cr, rfl, hIn, hb⟩
 have HX := Aside0.mk hIn
 replace HB := Aside0.mk (below_step (by repeat (first | (with_reducible exact HB.out) | apply below_alloc | apply pw_below_drewN | apply below_drew1 | refine below_set ?_ (by omega))) hb)
 replace B3 := Aside0.mk (blk_below (g := W.heap.size) (o := .cells #[.slice A0 lots.length c0, .slice A1 samples.length c1, .int .i64 spread, .slice A3 labs.length c3] 26 (0, 0)) (by (with_reducible repeat (first | exact B3.out | refine blk_drewN ?_ _ | refine blk_drew ?_ | refine blk_alloc ?_ _))) hb)
 clear hb
 (try clear p0 p1 p2 p3)
 (try clear lt_B3)
 have lt_B3 := blk_lt B3.out
 obtain ⟨p0, p1, p2, p3⟩ := cells4 B3.out
 clear hIn HRead HCw
 have BX := Aside0.mk (blk_new w2 (.cells #[.slice A0 lots.length c0, .slice A1 samples.length c1, .int .i64 spread, .slice Ar L.length cr] 26))
 obtain ⟨x0, x1, x2, x3⟩ := cells4 BX.out
 have lt_BX := blk_lt BX.out
 go_wp2_with (first | (go_at_call 20; (with_reducible refine (round_at (HX.out.below (by repeat (first | (with_reducible exact Below.refl _ _) | apply below_alloc | apply pw_below_drewN | apply below_drew1))) HThX.out).mono ?_); rintro e w4 ⟨u, rfl, hu, hb⟩; have HU := Aside0.mk hu; clear hu; replace HB := Aside0.mk (below_step (by repeat (first | (with_reducible exact HB.out) | apply below_alloc | apply pw_below_drewN | apply below_drew1 | refine below_set ?_ (by omega))) hb); replace B3 := Aside0.mk (blk_below (g := W.heap.size) (o := .cells #[.slice A0 lots.length c0, .slice A1 samples.length c1, .int .i64 spread, .slice A3 labs.length c3] 26 (0, 0)) (by (with_reducible repeat (first | exact B3.out | refine blk_drewN ?_ _ | refine blk_drew ?_ | refine blk_alloc ?_ _))) hb); replace BX := Aside0.mk (blk_below (g := w2.heap.size) (o := .cells #[.slice A0 lots.length c0, .slice A1 samples.length c1, .int .i64 spread, .slice Ar L.length cr] 26 (0, 0)) (by (with_reducible repeat (first | exact BX.out | refine blk_drewN ?_ _ | refine blk_drew ?_ | refine blk_alloc ?_ _))) hb); clear hb; (try clear p0 p1 p2 p3); (try clear lt_B3); have lt_B3 := blk_lt B3.out; obtain ⟨p0, p1, p2, p3⟩ := cells4 B3.out; (try clear x0 x1 x2 x3); (try clear lt_BX); have lt_BX := blk_lt BX.out; obtain ⟨x0, x1, x2, x3⟩ := cells4 BX.out) | (go_at_call 32; refine Aside0.out ?_))
 refine ⟨?_⟩
 refine (shifts_at HU.out k).mono ?_
 rw [HS.out]
 rintro e w5 ⟨rfl, hb⟩
 replace HB := Aside0.mk (below_step (by repeat (first | (with_reducible exact HB.out) | apply below_alloc | apply pw_below_drewN | apply below_drew1 | refine below_set ?_ (by omega))) hb)
 replace B3 := Aside0.mk (blk_below (g := W.heap.size) (o := .cells #[.slice A0 lots.length c0, .slice A1 samples.length c1, .int .i64 spread, .slice A3 labs.length c3] 26 (0, 0)) (by (with_reducible repeat (first | exact B3.out | refine blk_drewN ?_ _ | refine blk_drew ?_ | refine blk_alloc ?_ _))) hb)
 replace BX := Aside0.mk (blk_below (g := w2.heap.size) (o := .cells #[.slice A0 lots.length c0, .slice A1 samples.length c1, .int .i64 spread, .slice Ar L.length cr] 26 (0, 0)) (by (with_reducible repeat (first | exact BX.out | refine blk_drewN ?_ _ | refine blk_drew ?_ | refine blk_alloc ?_ _))) hb)
 clear hb
 (try clear p0 p1 p2 p3)
 (try clear lt_B3)
 have lt_B3 := blk_lt B3.out
 obtain ⟨p0, p1, p2, p3⟩ := cells4 B3.out
 (try clear x0 x1 x2 x3)
 (try clear lt_BX)
 have lt_BX := blk_lt BX.out
 obtain ⟨x0, x1, x2, x3⟩ := cells4 BX.out
 clear HU HX BX x0 x1 x2 x3 lt_BX HThX HS
 have BS := Aside0.mk (blk_new w5 (.cells #[.int .i64 lo, .int .i64 hi] 46))
 obtain ⟨q0, q1⟩ := cells2 BS.out
 have lt_BS := blk_lt BS.out
 have f1 : decide (n < lo) = false := decide_eq_false (by omega)
 have f2 : decide (hi < n) = false := decide_eq_false (by omega)
 go_wp2_with (first | (go_at_call 20; (with_reducible refine (round_at (HI.out.below (by repeat (first | (with_reducible exact HB.out) | apply below_alloc | apply pw_below_drewN | apply below_drew1 | refine below_set ?_ (by omega)))) HTh.out).mono ?_); rintro e w6 ⟨u, rfl, hu, hb⟩; have HU := Aside0.mk hu; clear hu; replace HB := Aside0.mk (below_step (by repeat (first | (with_reducible exact HB.out) | apply below_alloc | apply pw_below_drewN | apply below_drew1 | refine below_set ?_ (by omega))) hb); replace B3 := Aside0.mk (blk_below (g := W.heap.size) (o := .cells #[.slice A0 lots.length c0, .slice A1 samples.length c1, .int .i64 spread, .slice A3 labs.length c3] 26 (0, 0)) (by (with_reducible repeat (first | exact B3.out | refine blk_drewN ?_ _ | refine blk_drew ?_ | refine blk_alloc ?_ _))) hb); replace BS := Aside0.mk (blk_below (g := w5.heap.size) (o := .cells #[.int .i64 lo, .int .i64 hi] 46 (0, 0)) (by (with_reducible repeat (first | exact BS.out | refine blk_drewN ?_ _ | refine blk_drew ?_ | refine blk_alloc ?_ _))) hb); clear hb; (try clear p0 p1 p2 p3); (try clear lt_B3); have lt_B3 := blk_lt B3.out; obtain ⟨p0, p1, p2, p3⟩ := cells4 B3.out; (try clear q0 q1); (try clear lt_BS); have lt_BS := blk_lt BS.out; obtain ⟨q0, q1⟩ := cells2 BS.out) | (go_at_call 21; first | ((with_reducible refine (explains_at (l := []) (HU.out.below (by repeat (first | (with_reducible exact Below.refl _ _) | apply below_alloc | apply pw_below_drewN | apply below_drew1))) (InL.nil _) (by simp)).mono ?_); (rw [HE0.out]); rintro e w7 ⟨rfl, hb⟩; clear HU; replace HB := Aside0.mk (below_step (by repeat (first | (with_reducible exact HB.out) | apply below_alloc | apply pw_below_drewN | apply below_drew1 | refine below_set ?_ (by omega))) hb); replace B3 := Aside0.mk (blk_below (g := W.heap.size) (o := .cells #[.slice A0 lots.length c0, .slice A1 samples.length c1, .int .i64 spread, .slice A3 labs.length c3] 26 (0, 0)) (by (with_reducible repeat (first | exact B3.out | refine blk_drewN ?_ _ | refine blk_drew ?_ | refine blk_alloc ?_ _))) hb); replace BS := Aside0.mk (blk_below (g := w5.heap.size) (o := .cells #[.int .i64 lo, .int .i64 hi] 46 (0, 0)) (by (with_reducible repeat (first | exact BS.out | refine blk_drewN ?_ _ | refine blk_drew ?_ | refine blk_alloc ?_ _))) hb); clear hb; (try clear p0 p1 p2 p3); (try clear lt_B3); have lt_B3 := blk_lt B3.out; obtain ⟨p0, p1, p2, p3⟩ := cells4 B3.out; (try clear q0 q1); (try clear lt_BS); have lt_BS := blk_lt BS.out; obtain ⟨q0, q1⟩ := cells2 BS.out) | ((with_reducible refine (explains_at (l := [k]) (HU.out.below (by repeat (first | (with_reducible exact Below.refl _ _) | apply below_alloc | apply pw_below_drewN | apply below_drew1))) (InL.one (by first | exact blk_new _ _ | exact blk_new' (by simp))) (by simp)).mono ?_); (rw [HE1.out]); rintro e w7 ⟨rfl, hb⟩; clear HU; replace HB := Aside0.mk (below_step (by repeat (first | (with_reducible exact HB.out) | apply below_alloc | apply pw_below_drewN | apply below_drew1 | refine below_set ?_ (by omega))) hb); replace B3 := Aside0.mk (blk_below (g := W.heap.size) (o := .cells #[.slice A0 lots.length c0, .slice A1 samples.length c1, .int .i64 spread, .slice A3 labs.length c3] 26 (0, 0)) (by (with_reducible repeat (first | exact B3.out | refine blk_drewN ?_ _ | refine blk_drew ?_ | refine blk_alloc ?_ _))) hb); replace BS := Aside0.mk (blk_below (g := w5.heap.size) (o := .cells #[.int .i64 lo, .int .i64 hi] 46 (0, 0)) (by (with_reducible repeat (first | exact BS.out | refine blk_drewN ?_ _ | refine blk_drew ?_ | refine blk_alloc ?_ _))) hb); clear hb; (try clear p0 p1 p2 p3); (try clear lt_B3); have lt_B3 := blk_lt B3.out; obtain ⟨p0, p1, p2, p3⟩ := cells4 B3.out; (try clear q0 q1); (try clear lt_BS); have lt_BS := blk_lt BS.out; obtain ⟨q0, q1⟩ := cells2 BS.out)) | (go_at_call 32; refine Aside0.out ?_))
 refine ⟨?_⟩
 refine (shifts_at HU.out k).mono ?_
 rw [HT.out]
 rintro e w8 ⟨rfl, hb⟩
 replace HB := Aside0.mk (below_step (by repeat (first | (with_reducible exact HB.out) | apply below_alloc | apply pw_below_drewN | apply below_drew1 | refine below_set ?_ (by omega))) hb)
 replace B3 := Aside0.mk (blk_below (g := W.heap.size) (o := .cells #[.slice A0 lots.length c0, .slice A1 samples.length c1, .int .i64 spread, .slice A3 labs.length c3] 26 (0, 0)) (by (with_reducible repeat (first | exact B3.out | refine blk_drewN ?_ _ | refine blk_drew ?_ | refine blk_alloc ?_ _))) hb)
 replace BS := Aside0.mk (blk_below (g := w5.heap.size) (o := .cells #[.int .i64 lo, .int .i64 hi] 46 (0, 0)) (by (with_reducible repeat (first | exact BS.out | refine blk_drewN ?_ _ | refine blk_drew ?_ | refine blk_alloc ?_ _))) hb)
 clear hb
 (try clear p0 p1 p2 p3)
 (try clear lt_B3)
 have lt_B3 := blk_lt B3.out
 obtain ⟨p0, p1, p2, p3⟩ := cells4 B3.out
 (try clear q0 q1)
 (try clear lt_BS)
 have lt_BS := blk_lt BS.out
 obtain ⟨q0, q1⟩ := cells2 BS.out
 clear HU
 have BT := Aside0.mk (blk_new w8 (.cells #[.int .i64 t0, .int .i64 t1] 46))
 obtain ⟨r0, r1⟩ := cells2 BT.out
 have lt_BT := blk_lt BT.out
 subst hb hh ha
 replace g0 := decide_eq_true g0
 replace g1 : decide (0 ≤ t1) = false := decide_eq_false (by omega)
 go_wp2_with (first | (go_at_call 18; (with_reducible refine (wakes_any _).mono ?_); rintro e w9 ⟨rfl, hb⟩; replace HB := Aside0.mk (below_step (by repeat (first | (with_reducible exact HB.out) | apply below_alloc | apply pw_below_drewN | apply below_drew1 | refine below_set ?_ (by omega))) hb); replace B3 := Aside0.mk (blk_below (g := W.heap.size) (o := .cells #[.slice A0 lots.length c0, .slice A1 samples.length c1, .int .i64 spread, .slice A3 labs.length c3] 26 (0, 0)) (by (with_reducible repeat (first | exact B3.out | refine blk_drewN ?_ _ | refine blk_drew ?_ | refine blk_alloc ?_ _))) hb); replace BS := Aside0.mk (blk_below (g := w5.heap.size) (o := .cells #[.int .i64 lo, .int .i64 hi] 46 (0, 0)) (by (with_reducible repeat (first | exact BS.out | refine blk_drewN ?_ _ | refine blk_drew ?_ | refine blk_alloc ?_ _))) hb); replace BT := Aside0.mk (blk_below (g := w8.heap.size) (o := .cells #[.int .i64 t0, .int .i64 t1] 46 (0, 0)) (by (with_reducible repeat (first | exact BT.out | refine blk_drewN ?_ _ | refine blk_drew ?_ | refine blk_alloc ?_ _))) hb); clear hb; (try clear p0 p1 p2 p3); (try clear lt_B3); have lt_B3 := blk_lt B3.out; obtain ⟨p0, p1, p2, p3⟩ := cells4 B3.out; (try clear q0 q1); (try clear lt_BS); have lt_BS := blk_lt BS.out; obtain ⟨q0, q1⟩ := cells2 BS.out; (try clear r0 r1); (try clear lt_BT); have lt_BT := blk_lt BT.out; obtain ⟨r0, r1⟩ := cells2 BT.out))
 go_ret
 exact ⟨rfl, HB.out⟩
set_option maxHeartbeats 4000000 in
set_option maxRecDepth 100000 in
theorem alike_some3 {W : World} {v : Value} {A0 : Option Addr} {c0 : Nat} {lots : List S44} {A1 : Option Addr} {c1 : Nat} {samples : List Int} {spread : Int} {A3 : Option Addr} {c3 : Nat} {labs : List S62} (h : In26 W v A0 c0 lots A1 c1 samples spread A3 c3 labs) (Aw : Option Addr) (cw : Nat) (words : List Int) (hC : (Kd.int .u16).C W Aw words.length words) (hcw : words.length ≤ cw) (hw : WordsOk words) (lab shift : Int) (hl0 : 0 ≤ lab) (hl1 : lab < 256) (hs0 : -40000 ≤ shift) (hs1 : shift ≤ 40000) (hr : Ev (fun k => tensilelaw08_ready.f k lots samples spread labs) true) (hth : ThinR lots samples labs) (hok : RoundOk (lots.map m46) samples spread (labs.map m75)) (h0 : 0 < labs.length) (k n : Int) (hk : Int.tmod lab (labs.length : Int) = k) (hn : Int.tmod shift 1000 = n) (k0 : 0 ≤ k) (k1 : k < labs.length) (n0 : -1000 < n) (n1 : n < 1000) (lo hi : Int) (hx : shiftsF (lots.map m46) samples spread ((readF lots samples spread labs words (2 ^ k.toNat) n labs.length).map m75) k = (⟨lo, hi⟩, 0)) (l0 : lo ≤ n) (l1 : n ≤ hi) (a b : Bool) (he0 : explainsF (lots.map m46) samples spread (labs.map m75) [] = (a, 0)) (he1 : explainsF (lots.map m46) samples spread (labs.map m75) [k] = (b, 0)) (t0 t1 eh : Int) (ht : shiftsF (lots.map m46) samples spread (labs.map m75) k = (⟨t0, t1⟩, eh)) (hb : b = true) (hh : eh = 0) (g0 : ¬ t0 ≤ 0) (ha : a = false) :
  Calls Try.prog 11 #[.agg #[.slice A0 lots.length c0, .slice A1 samples.length c1, .int .i64 spread, .slice A3 labs.length c3], .slice Aw words.length cw, .int .u8 lab, .int .i16 shift] W (RetB W (.bool true)) := by
 have HI := Aside0.mk h
 have HB := Aside0.mk (below_alloc (Below.refl _ W) (.cells #[.slice A0 lots.length c0, .slice A1 samples.length c1, .int .i64 spread, .slice A3 labs.length c3] 26))
 have B3 := Aside0.mk (blk_new W (.cells #[.slice A0 lots.length c0, .slice A1 samples.length c1, .int .i64 spread, .slice A3 labs.length c3] 26))
 obtain ⟨p0, p1, p2, p3⟩ := cells4 B3.out
 have lt_B3 := blk_lt B3.out
 have HRd := Aside0.mk hr
 have HTh := Aside0.mk hth
 have HE0 := Aside0.mk he0
 have HE1 := Aside0.mk he1
 have HT := Aside0.mk ht
 have HS := Aside0.mk hx
 have HThX := Aside0.mk (read_thin (words := words) (bits := 2 ^ k.toNat) (shift := n) hok)
 have h6 : labs.length ≤ 6 := by have := hok.b6; rwa [List.length_map] at this
 have e0 : ((labs.length : Int) == 0) = false := beq_eq_false_iff_ne.2 (by omega)
 have e1 : IntKind.i64.wrap lab = lab := IntWalk.i64_in _ (by omega)
 have e2 : IntKind.i64.wrap shift = shift := IntWalk.i64_in _ (by omega)
 have e3 : IntKind.u64.wrap k = k := IntWalk.u64_in _ (by omega)
 have p2 : (2 : Int) ^ k.toNat < 256 ∧ 0 ≤ (2 : Int) ^ k.toNat := by
  have : k.toNat < 6 := by omega
  generalize k.toNat = j at this
  match j, this with
  | 0, _ | 1, _ | 2, _ | 3, _ | 4, _ | 5, _ => decide
 have e4 : IntKind.u8.wrap (2 ^ k.toNat) = 2 ^ k.toNat := IntWalk.u8_in _ (by omega)
 have HRead := Aside0.mk (fun W' (h' : In26 W' v A0 c0 lots A1 c1 samples spread A3 c3 labs) (hC' : (Kd.int .u16).C W' Aw words.length words) => read_at h' hok Aw cw words hC' hcw hw (2 ^ k.toNat) n (by omega) (by omega) p2.2 p2.1)
 have HCw := Aside0.mk hC
 generalize readF lots samples spread labs words (2 ^ k.toNat) n labs.length = L at HRead HS HThX
 clear h hr hth hok hC he0 he1 ht hx hs0 hs1 p2
 go_enter Try.func11, Try.ntmps11
 go_wp2_with (first | (go_at_call 35; (with_reducible refine (ready_at (HI.out.below (by repeat (first | (with_reducible exact HB.out) | apply below_alloc | apply pw_below_drewN | apply below_drew1 | refine below_set ?_ (by omega)))) HRd.out).mono ?_); rintro e w1 ⟨rfl, hb⟩; replace HB := Aside0.mk (below_step (by repeat (first | (with_reducible exact HB.out) | apply below_alloc | apply pw_below_drewN | apply below_drew1 | refine below_set ?_ (by omega))) hb); replace B3 := Aside0.mk (blk_below (g := W.heap.size) (o := .cells #[.slice A0 lots.length c0, .slice A1 samples.length c1, .int .i64 spread, .slice A3 labs.length c3] 26 (0, 0)) (by (with_reducible repeat (first | exact B3.out | refine blk_drewN ?_ _ | refine blk_drew ?_ | refine blk_alloc ?_ _))) hb); clear hb; (try clear p0 p1 p2 p3); (try clear lt_B3); have lt_B3 := blk_lt B3.out; obtain ⟨p0, p1, p2, p3⟩ := cells4 B3.out) | (go_at_call 37; refine Aside0.out ?_))
 refine ⟨?_⟩
 refine (HRead.out _ (HI.out.below (by repeat (first | (with_reducible exact HB.out) | apply below_alloc | apply pw_below_drewN | apply below_drew1 | refine below_set ?_ (by omega)))) (Kd.C_below HCw.out (by repeat (first | (with_reducible exact HB.out) | apply below_alloc | apply pw_below_drewN | apply below_drew1 | refine below_set ?_ (by omega))))).mono ?_
 rintro e w2 ⟨Ar, cr, rfl, hIn, hb⟩
 have HX := Aside0.mk hIn
 replace HB := Aside0.mk (below_step (by repeat (first | (with_reducible exact HB.out) | apply below_alloc | apply pw_below_drewN | apply below_drew1 | refine below_set ?_ (by omega))) hb)
 replace B3 := Aside0.mk (blk_below (g := W.heap.size) (o := .cells #[.slice A0 lots.length c0, .slice A1 samples.length c1, .int .i64 spread, .slice A3 labs.length c3] 26 (0, 0)) (by (with_reducible repeat (first | exact B3.out | refine blk_drewN ?_ _ | refine blk_drew ?_ | refine blk_alloc ?_ _))) hb)
 clear hb
 (try clear p0 p1 p2 p3)
 (try clear lt_B3)
 have lt_B3 := blk_lt B3.out
 obtain ⟨p0, p1, p2, p3⟩ := cells4 B3.out
 clear hIn HRead HCw
 have BX := Aside0.mk (blk_new w2 (.cells #[.slice A0 lots.length c0, .slice A1 samples.length c1, .int .i64 spread, .slice Ar L.length cr] 26))
 obtain ⟨x0, x1, x2, x3⟩ := cells4 BX.out
 have lt_BX := blk_lt BX.out
 go_wp2_with (first | (go_at_call 20; (with_reducible refine (round_at (HX.out.below (by repeat (first | (with_reducible exact Below.refl _ _) | apply below_alloc | apply pw_below_drewN | apply below_drew1))) HThX.out).mono ?_); rintro e w4 ⟨u, rfl, hu, hb⟩; have HU := Aside0.mk hu; clear hu; replace HB := Aside0.mk (below_step (by repeat (first | (with_reducible exact HB.out) | apply below_alloc | apply pw_below_drewN | apply below_drew1 | refine below_set ?_ (by omega))) hb); replace B3 := Aside0.mk (blk_below (g := W.heap.size) (o := .cells #[.slice A0 lots.length c0, .slice A1 samples.length c1, .int .i64 spread, .slice A3 labs.length c3] 26 (0, 0)) (by (with_reducible repeat (first | exact B3.out | refine blk_drewN ?_ _ | refine blk_drew ?_ | refine blk_alloc ?_ _))) hb); replace BX := Aside0.mk (blk_below (g := w2.heap.size) (o := .cells #[.slice A0 lots.length c0, .slice A1 samples.length c1, .int .i64 spread, .slice Ar L.length cr] 26 (0, 0)) (by (with_reducible repeat (first | exact BX.out | refine blk_drewN ?_ _ | refine blk_drew ?_ | refine blk_alloc ?_ _))) hb); clear hb; (try clear p0 p1 p2 p3); (try clear lt_B3); have lt_B3 := blk_lt B3.out; obtain ⟨p0, p1, p2, p3⟩ := cells4 B3.out; (try clear x0 x1 x2 x3); (try clear lt_BX); have lt_BX := blk_lt BX.out; obtain ⟨x0, x1, x2, x3⟩ := cells4 BX.out) | (go_at_call 32; refine Aside0.out ?_))
 refine ⟨?_⟩
 refine (shifts_at HU.out k).mono ?_
 rw [HS.out]
 rintro e w5 ⟨rfl, hb⟩
 replace HB := Aside0.mk (below_step (by repeat (first | (with_reducible exact HB.out) | apply below_alloc | apply pw_below_drewN | apply below_drew1 | refine below_set ?_ (by omega))) hb)
 replace B3 := Aside0.mk (blk_below (g := W.heap.size) (o := .cells #[.slice A0 lots.length c0, .slice A1 samples.length c1, .int .i64 spread, .slice A3 labs.length c3] 26 (0, 0)) (by (with_reducible repeat (first | exact B3.out | refine blk_drewN ?_ _ | refine blk_drew ?_ | refine blk_alloc ?_ _))) hb)
 replace BX := Aside0.mk (blk_below (g := w2.heap.size) (o := .cells #[.slice A0 lots.length c0, .slice A1 samples.length c1, .int .i64 spread, .slice Ar L.length cr] 26 (0, 0)) (by (with_reducible repeat (first | exact BX.out | refine blk_drewN ?_ _ | refine blk_drew ?_ | refine blk_alloc ?_ _))) hb)
 clear hb
 (try clear p0 p1 p2 p3)
 (try clear lt_B3)
 have lt_B3 := blk_lt B3.out
 obtain ⟨p0, p1, p2, p3⟩ := cells4 B3.out
 (try clear x0 x1 x2 x3)
 (try clear lt_BX)
 have lt_BX := blk_lt BX.out
 obtain ⟨x0, x1, x2, x3⟩ := cells4 BX.out
 clear HU HX BX x0 x1 x2 x3 lt_BX HThX HS
 have BS := Aside0.mk (blk_new w5 (.cells #[.int .i64 lo, .int .i64 hi] 46))
 obtain ⟨q0, q1⟩ := cells2 BS.out
 have lt_BS := blk_lt BS.out
 have f1 : decide (n < lo) = false := decide_eq_false (by omega)
 have f2 : decide (hi < n) = false := decide_eq_false (by omega)
 go_wp2_with (first | (go_at_call 20; (with_reducible refine (round_at (HI.out.below (by repeat (first | (with_reducible exact HB.out) | apply below_alloc | apply pw_below_drewN | apply below_drew1 | refine below_set ?_ (by omega)))) HTh.out).mono ?_); rintro e w6 ⟨u, rfl, hu, hb⟩; have HU := Aside0.mk hu; clear hu; replace HB := Aside0.mk (below_step (by repeat (first | (with_reducible exact HB.out) | apply below_alloc | apply pw_below_drewN | apply below_drew1 | refine below_set ?_ (by omega))) hb); replace B3 := Aside0.mk (blk_below (g := W.heap.size) (o := .cells #[.slice A0 lots.length c0, .slice A1 samples.length c1, .int .i64 spread, .slice A3 labs.length c3] 26 (0, 0)) (by (with_reducible repeat (first | exact B3.out | refine blk_drewN ?_ _ | refine blk_drew ?_ | refine blk_alloc ?_ _))) hb); replace BS := Aside0.mk (blk_below (g := w5.heap.size) (o := .cells #[.int .i64 lo, .int .i64 hi] 46 (0, 0)) (by (with_reducible repeat (first | exact BS.out | refine blk_drewN ?_ _ | refine blk_drew ?_ | refine blk_alloc ?_ _))) hb); clear hb; (try clear p0 p1 p2 p3); (try clear lt_B3); have lt_B3 := blk_lt B3.out; obtain ⟨p0, p1, p2, p3⟩ := cells4 B3.out; (try clear q0 q1); (try clear lt_BS); have lt_BS := blk_lt BS.out; obtain ⟨q0, q1⟩ := cells2 BS.out) | (go_at_call 21; first | ((with_reducible refine (explains_at (l := []) (HU.out.below (by repeat (first | (with_reducible exact Below.refl _ _) | apply below_alloc | apply pw_below_drewN | apply below_drew1))) (InL.nil _) (by simp)).mono ?_); (rw [HE0.out]); rintro e w7 ⟨rfl, hb⟩; clear HU; replace HB := Aside0.mk (below_step (by repeat (first | (with_reducible exact HB.out) | apply below_alloc | apply pw_below_drewN | apply below_drew1 | refine below_set ?_ (by omega))) hb); replace B3 := Aside0.mk (blk_below (g := W.heap.size) (o := .cells #[.slice A0 lots.length c0, .slice A1 samples.length c1, .int .i64 spread, .slice A3 labs.length c3] 26 (0, 0)) (by (with_reducible repeat (first | exact B3.out | refine blk_drewN ?_ _ | refine blk_drew ?_ | refine blk_alloc ?_ _))) hb); replace BS := Aside0.mk (blk_below (g := w5.heap.size) (o := .cells #[.int .i64 lo, .int .i64 hi] 46 (0, 0)) (by (with_reducible repeat (first | exact BS.out | refine blk_drewN ?_ _ | refine blk_drew ?_ | refine blk_alloc ?_ _))) hb); clear hb; (try clear p0 p1 p2 p3); (try clear lt_B3); have lt_B3 := blk_lt B3.out; obtain ⟨p0, p1, p2, p3⟩ := cells4 B3.out; (try clear q0 q1); (try clear lt_BS); have lt_BS := blk_lt BS.out; obtain ⟨q0, q1⟩ := cells2 BS.out) | ((with_reducible refine (explains_at (l := [k]) (HU.out.below (by repeat (first | (with_reducible exact Below.refl _ _) | apply below_alloc | apply pw_below_drewN | apply below_drew1))) (InL.one (by first | exact blk_new _ _ | exact blk_new' (by simp))) (by simp)).mono ?_); (rw [HE1.out]); rintro e w7 ⟨rfl, hb⟩; clear HU; replace HB := Aside0.mk (below_step (by repeat (first | (with_reducible exact HB.out) | apply below_alloc | apply pw_below_drewN | apply below_drew1 | refine below_set ?_ (by omega))) hb); replace B3 := Aside0.mk (blk_below (g := W.heap.size) (o := .cells #[.slice A0 lots.length c0, .slice A1 samples.length c1, .int .i64 spread, .slice A3 labs.length c3] 26 (0, 0)) (by (with_reducible repeat (first | exact B3.out | refine blk_drewN ?_ _ | refine blk_drew ?_ | refine blk_alloc ?_ _))) hb); replace BS := Aside0.mk (blk_below (g := w5.heap.size) (o := .cells #[.int .i64 lo, .int .i64 hi] 46 (0, 0)) (by (with_reducible repeat (first | exact BS.out | refine blk_drewN ?_ _ | refine blk_drew ?_ | refine blk_alloc ?_ _))) hb); clear hb; (try clear p0 p1 p2 p3); (try clear lt_B3); have lt_B3 := blk_lt B3.out; obtain ⟨p0, p1, p2, p3⟩ := cells4 B3.out; (try clear q0 q1); (try clear lt_BS); have lt_BS := blk_lt BS.out; obtain ⟨q0, q1⟩ := cells2 BS.out)) | (go_at_call 32; refine Aside0.out ?_))
 refine ⟨?_⟩
 refine (shifts_at HU.out k).mono ?_
 rw [HT.out]
 rintro e w8 ⟨rfl, hb⟩
 replace HB := Aside0.mk (below_step (by repeat (first | (with_reducible exact HB.out) | apply below_alloc | apply pw_below_drewN | apply below_drew1 | refine below_set ?_ (by omega))) hb)
 replace B3 := Aside0.mk (blk_below (g := W.heap.size) (o := .cells #[.slice A0 lots.length c0, .slice A1 samples.length c1, .int .i64 spread, .slice A3 labs.length c3] 26 (0, 0)) (by (with_reducible repeat (first | exact B3.out | refine blk_drewN ?_ _ | refine blk_drew ?_ | refine blk_alloc ?_ _))) hb)
 replace BS := Aside0.mk (blk_below (g := w5.heap.size) (o := .cells #[.int .i64 lo, .int .i64 hi] 46 (0, 0)) (by (with_reducible repeat (first | exact BS.out | refine blk_drewN ?_ _ | refine blk_drew ?_ | refine blk_alloc ?_ _))) hb)
 clear hb
 (try clear p0 p1 p2 p3)
 (try clear lt_B3)
 have lt_B3 := blk_lt B3.out
 obtain ⟨p0, p1, p2, p3⟩ := cells4 B3.out
 (try clear q0 q1)
 (try clear lt_BS)
 have lt_BS := blk_lt BS.out
 obtain ⟨q0, q1⟩ := cells2 BS.out
 clear HU
 have BT := Aside0.mk (blk_new w8 (.cells #[.int .i64 t0, .int .i64 t1] 46))
 obtain ⟨r0, r1⟩ := cells2 BT.out
 have lt_BT := blk_lt BT.out
 subst hb hh ha
 replace g0 : decide (t0 ≤ 0) = false := decide_eq_false (by omega)
 go_wp2_with (first | (go_at_call 18; (with_reducible refine (wakes_any _).mono ?_); rintro e w9 ⟨rfl, hb⟩; replace HB := Aside0.mk (below_step (by repeat (first | (with_reducible exact HB.out) | apply below_alloc | apply pw_below_drewN | apply below_drew1 | refine below_set ?_ (by omega))) hb); replace B3 := Aside0.mk (blk_below (g := W.heap.size) (o := .cells #[.slice A0 lots.length c0, .slice A1 samples.length c1, .int .i64 spread, .slice A3 labs.length c3] 26 (0, 0)) (by (with_reducible repeat (first | exact B3.out | refine blk_drewN ?_ _ | refine blk_drew ?_ | refine blk_alloc ?_ _))) hb); replace BS := Aside0.mk (blk_below (g := w5.heap.size) (o := .cells #[.int .i64 lo, .int .i64 hi] 46 (0, 0)) (by (with_reducible repeat (first | exact BS.out | refine blk_drewN ?_ _ | refine blk_drew ?_ | refine blk_alloc ?_ _))) hb); replace BT := Aside0.mk (blk_below (g := w8.heap.size) (o := .cells #[.int .i64 t0, .int .i64 t1] 46 (0, 0)) (by (with_reducible repeat (first | exact BT.out | refine blk_drewN ?_ _ | refine blk_drew ?_ | refine blk_alloc ?_ _))) hb); clear hb; (try clear p0 p1 p2 p3); (try clear lt_B3); have lt_B3 := blk_lt B3.out; obtain ⟨p0, p1, p2, p3⟩ := cells4 B3.out; (try clear q0 q1); (try clear lt_BS); have lt_BS := blk_lt BS.out; obtain ⟨q0, q1⟩ := cells2 BS.out; (try clear r0 r1); (try clear lt_BT); have lt_BT := blk_lt BT.out; obtain ⟨r0, r1⟩ := cells2 BT.out))
 go_ret
 exact ⟨rfl, HB.out⟩
set_option maxHeartbeats 4000000 in
set_option maxRecDepth 100000 in
theorem alike_err {W : World} {v : Value} {A0 : Option Addr} {c0 : Nat} {lots : List S44} {A1 : Option Addr} {c1 : Nat} {samples : List Int} {spread : Int} {A3 : Option Addr} {c3 : Nat} {labs : List S62} (h : In26 W v A0 c0 lots A1 c1 samples spread A3 c3 labs) (Aw : Option Addr) (cw : Nat) (words : List Int) (hC : (Kd.int .u16).C W Aw words.length words) (hcw : words.length ≤ cw) (hw : WordsOk words) (lab shift : Int) (hl0 : 0 ≤ lab) (hl1 : lab < 256) (hs0 : -40000 ≤ shift) (hs1 : shift ≤ 40000) (hr : Ev (fun k => tensilelaw08_ready.f k lots samples spread labs) true) (hth : ThinR lots samples labs) (hok : RoundOk (lots.map m46) samples spread (labs.map m75)) (h0 : 0 < labs.length) (k n : Int) (hk : Int.tmod lab (labs.length : Int) = k) (hn : Int.tmod shift 1000 = n) (k0 : 0 ≤ k) (k1 : k < labs.length) (n0 : -1000 < n) (n1 : n < 1000) (lo hi : Int) (hx : shiftsF (lots.map m46) samples spread ((readF lots samples spread labs words (2 ^ k.toNat) n labs.length).map m75) k = (⟨lo, hi⟩, 0)) (l0 : lo ≤ n) (l1 : n ≤ hi) (a b : Bool) (he0 : explainsF (lots.map m46) samples spread (labs.map m75) [] = (a, 0)) (he1 : explainsF (lots.map m46) samples spread (labs.map m75) [k] = (b, 0)) (t0 t1 eh : Int) (ht : shiftsF (lots.map m46) samples spread (labs.map m75) k = (⟨t0, t1⟩, eh)) (hb : b = true) (hh : eh = 7) (ha : a = false) :
  Calls Try.prog 11 #[.agg #[.slice A0 lots.length c0, .slice A1 samples.length c1, .int .i64 spread, .slice A3 labs.length c3], .slice Aw words.length cw, .int .u8 lab, .int .i16 shift] W (RetB W (.bool true)) := by
 have HI := Aside0.mk h
 have HB := Aside0.mk (below_alloc (Below.refl _ W) (.cells #[.slice A0 lots.length c0, .slice A1 samples.length c1, .int .i64 spread, .slice A3 labs.length c3] 26))
 have B3 := Aside0.mk (blk_new W (.cells #[.slice A0 lots.length c0, .slice A1 samples.length c1, .int .i64 spread, .slice A3 labs.length c3] 26))
 obtain ⟨p0, p1, p2, p3⟩ := cells4 B3.out
 have lt_B3 := blk_lt B3.out
 have HRd := Aside0.mk hr
 have HTh := Aside0.mk hth
 have HE0 := Aside0.mk he0
 have HE1 := Aside0.mk he1
 have HT := Aside0.mk ht
 have HS := Aside0.mk hx
 have HThX := Aside0.mk (read_thin (words := words) (bits := 2 ^ k.toNat) (shift := n) hok)
 have h6 : labs.length ≤ 6 := by have := hok.b6; rwa [List.length_map] at this
 have e0 : ((labs.length : Int) == 0) = false := beq_eq_false_iff_ne.2 (by omega)
 have e1 : IntKind.i64.wrap lab = lab := IntWalk.i64_in _ (by omega)
 have e2 : IntKind.i64.wrap shift = shift := IntWalk.i64_in _ (by omega)
 have e3 : IntKind.u64.wrap k = k := IntWalk.u64_in _ (by omega)
 have p2 : (2 : Int) ^ k.toNat < 256 ∧ 0 ≤ (2 : Int) ^ k.toNat := by
  have : k.toNat < 6 := by omega
  generalize k.toNat = j at this
  match j, this with
  | 0, _ | 1, _ | 2, _ | 3, _ | 4, _ | 5, _ => decide
 have e4 : IntKind.u8.wrap (2 ^ k.toNat) = 2 ^ k.toNat := IntWalk.u8_in _ (by omega)
 have HRead := Aside0.mk (fun W' (h' : In26 W' v A0 c0 lots A1 c1 samples spread A3 c3 labs) (hC' : (Kd.int .u16).C W' Aw words.length words) => read_at h' hok Aw cw words hC' hcw hw (2 ^ k.toNat) n (by omega) (by omega) p2.2 p2.1)
 have HCw := Aside0.mk hC
 generalize readF lots samples spread labs words (2 ^ k.toNat) n labs.length = L at HRead HS HThX
 clear h hr hth hok hC he0 he1 ht hx hs0 hs1 p2
 go_enter Try.func11, Try.ntmps11
 go_wp2_with (first | (go_at_call 35; (with_reducible refine (ready_at (HI.out.below (by repeat (first | (with_reducible exact HB.out) | apply below_alloc | apply pw_below_drewN | apply below_drew1 | refine below_set ?_ (by omega)))) HRd.out).mono ?_); rintro e w1 ⟨rfl, hb⟩; replace HB := Aside0.mk (below_step (by repeat (first | (with_reducible exact HB.out) | apply below_alloc | apply pw_below_drewN | apply below_drew1 | refine below_set ?_ (by omega))) hb); replace B3 := Aside0.mk (blk_below (g := W.heap.size) (o := .cells #[.slice A0 lots.length c0, .slice A1 samples.length c1, .int .i64 spread, .slice A3 labs.length c3] 26 (0, 0)) (by (with_reducible repeat (first | exact B3.out | refine blk_drewN ?_ _ | refine blk_drew ?_ | refine blk_alloc ?_ _))) hb); clear hb; (try clear p0 p1 p2 p3); (try clear lt_B3); have lt_B3 := blk_lt B3.out; obtain ⟨p0, p1, p2, p3⟩ := cells4 B3.out) | (go_at_call 37; refine Aside0.out ?_))
 refine ⟨?_⟩
 refine (HRead.out _ (HI.out.below (by repeat (first | (with_reducible exact HB.out) | apply below_alloc | apply pw_below_drewN | apply below_drew1 | refine below_set ?_ (by omega)))) (Kd.C_below HCw.out (by repeat (first | (with_reducible exact HB.out) | apply below_alloc | apply pw_below_drewN | apply below_drew1 | refine below_set ?_ (by omega))))).mono ?_
 rintro e w2 ⟨Ar, cr, rfl, hIn, hb⟩
 have HX := Aside0.mk hIn
 replace HB := Aside0.mk (below_step (by repeat (first | (with_reducible exact HB.out) | apply below_alloc | apply pw_below_drewN | apply below_drew1 | refine below_set ?_ (by omega))) hb)
 replace B3 := Aside0.mk (blk_below (g := W.heap.size) (o := .cells #[.slice A0 lots.length c0, .slice A1 samples.length c1, .int .i64 spread, .slice A3 labs.length c3] 26 (0, 0)) (by (with_reducible repeat (first | exact B3.out | refine blk_drewN ?_ _ | refine blk_drew ?_ | refine blk_alloc ?_ _))) hb)
 clear hb
 (try clear p0 p1 p2 p3)
 (try clear lt_B3)
 have lt_B3 := blk_lt B3.out
 obtain ⟨p0, p1, p2, p3⟩ := cells4 B3.out
 clear hIn HRead HCw
 have BX := Aside0.mk (blk_new w2 (.cells #[.slice A0 lots.length c0, .slice A1 samples.length c1, .int .i64 spread, .slice Ar L.length cr] 26))
 obtain ⟨x0, x1, x2, x3⟩ := cells4 BX.out
 have lt_BX := blk_lt BX.out
 go_wp2_with (first | (go_at_call 20; (with_reducible refine (round_at (HX.out.below (by repeat (first | (with_reducible exact Below.refl _ _) | apply below_alloc | apply pw_below_drewN | apply below_drew1))) HThX.out).mono ?_); rintro e w4 ⟨u, rfl, hu, hb⟩; have HU := Aside0.mk hu; clear hu; replace HB := Aside0.mk (below_step (by repeat (first | (with_reducible exact HB.out) | apply below_alloc | apply pw_below_drewN | apply below_drew1 | refine below_set ?_ (by omega))) hb); replace B3 := Aside0.mk (blk_below (g := W.heap.size) (o := .cells #[.slice A0 lots.length c0, .slice A1 samples.length c1, .int .i64 spread, .slice A3 labs.length c3] 26 (0, 0)) (by (with_reducible repeat (first | exact B3.out | refine blk_drewN ?_ _ | refine blk_drew ?_ | refine blk_alloc ?_ _))) hb); replace BX := Aside0.mk (blk_below (g := w2.heap.size) (o := .cells #[.slice A0 lots.length c0, .slice A1 samples.length c1, .int .i64 spread, .slice Ar L.length cr] 26 (0, 0)) (by (with_reducible repeat (first | exact BX.out | refine blk_drewN ?_ _ | refine blk_drew ?_ | refine blk_alloc ?_ _))) hb); clear hb; (try clear p0 p1 p2 p3); (try clear lt_B3); have lt_B3 := blk_lt B3.out; obtain ⟨p0, p1, p2, p3⟩ := cells4 B3.out; (try clear x0 x1 x2 x3); (try clear lt_BX); have lt_BX := blk_lt BX.out; obtain ⟨x0, x1, x2, x3⟩ := cells4 BX.out) | (go_at_call 32; refine Aside0.out ?_))
 refine ⟨?_⟩
 refine (shifts_at HU.out k).mono ?_
 rw [HS.out]
 rintro e w5 ⟨rfl, hb⟩
 replace HB := Aside0.mk (below_step (by repeat (first | (with_reducible exact HB.out) | apply below_alloc | apply pw_below_drewN | apply below_drew1 | refine below_set ?_ (by omega))) hb)
 replace B3 := Aside0.mk (blk_below (g := W.heap.size) (o := .cells #[.slice A0 lots.length c0, .slice A1 samples.length c1, .int .i64 spread, .slice A3 labs.length c3] 26 (0, 0)) (by (with_reducible repeat (first | exact B3.out | refine blk_drewN ?_ _ | refine blk_drew ?_ | refine blk_alloc ?_ _))) hb)
 replace BX := Aside0.mk (blk_below (g := w2.heap.size) (o := .cells #[.slice A0 lots.length c0, .slice A1 samples.length c1, .int .i64 spread, .slice Ar L.length cr] 26 (0, 0)) (by (with_reducible repeat (first | exact BX.out | refine blk_drewN ?_ _ | refine blk_drew ?_ | refine blk_alloc ?_ _))) hb)
 clear hb
 (try clear p0 p1 p2 p3)
 (try clear lt_B3)
 have lt_B3 := blk_lt B3.out
 obtain ⟨p0, p1, p2, p3⟩ := cells4 B3.out
 (try clear x0 x1 x2 x3)
 (try clear lt_BX)
 have lt_BX := blk_lt BX.out
 obtain ⟨x0, x1, x2, x3⟩ := cells4 BX.out
 clear HU HX BX x0 x1 x2 x3 lt_BX HThX HS
 have BS := Aside0.mk (blk_new w5 (.cells #[.int .i64 lo, .int .i64 hi] 46))
 obtain ⟨q0, q1⟩ := cells2 BS.out
 have lt_BS := blk_lt BS.out
 have f1 : decide (n < lo) = false := decide_eq_false (by omega)
 have f2 : decide (hi < n) = false := decide_eq_false (by omega)
 go_wp2_with (first | (go_at_call 20; (with_reducible refine (round_at (HI.out.below (by repeat (first | (with_reducible exact HB.out) | apply below_alloc | apply pw_below_drewN | apply below_drew1 | refine below_set ?_ (by omega)))) HTh.out).mono ?_); rintro e w6 ⟨u, rfl, hu, hb⟩; have HU := Aside0.mk hu; clear hu; replace HB := Aside0.mk (below_step (by repeat (first | (with_reducible exact HB.out) | apply below_alloc | apply pw_below_drewN | apply below_drew1 | refine below_set ?_ (by omega))) hb); replace B3 := Aside0.mk (blk_below (g := W.heap.size) (o := .cells #[.slice A0 lots.length c0, .slice A1 samples.length c1, .int .i64 spread, .slice A3 labs.length c3] 26 (0, 0)) (by (with_reducible repeat (first | exact B3.out | refine blk_drewN ?_ _ | refine blk_drew ?_ | refine blk_alloc ?_ _))) hb); replace BS := Aside0.mk (blk_below (g := w5.heap.size) (o := .cells #[.int .i64 lo, .int .i64 hi] 46 (0, 0)) (by (with_reducible repeat (first | exact BS.out | refine blk_drewN ?_ _ | refine blk_drew ?_ | refine blk_alloc ?_ _))) hb); clear hb; (try clear p0 p1 p2 p3); (try clear lt_B3); have lt_B3 := blk_lt B3.out; obtain ⟨p0, p1, p2, p3⟩ := cells4 B3.out; (try clear q0 q1); (try clear lt_BS); have lt_BS := blk_lt BS.out; obtain ⟨q0, q1⟩ := cells2 BS.out) | (go_at_call 21; first | ((with_reducible refine (explains_at (l := []) (HU.out.below (by repeat (first | (with_reducible exact Below.refl _ _) | apply below_alloc | apply pw_below_drewN | apply below_drew1))) (InL.nil _) (by simp)).mono ?_); (rw [HE0.out]); rintro e w7 ⟨rfl, hb⟩; clear HU; replace HB := Aside0.mk (below_step (by repeat (first | (with_reducible exact HB.out) | apply below_alloc | apply pw_below_drewN | apply below_drew1 | refine below_set ?_ (by omega))) hb); replace B3 := Aside0.mk (blk_below (g := W.heap.size) (o := .cells #[.slice A0 lots.length c0, .slice A1 samples.length c1, .int .i64 spread, .slice A3 labs.length c3] 26 (0, 0)) (by (with_reducible repeat (first | exact B3.out | refine blk_drewN ?_ _ | refine blk_drew ?_ | refine blk_alloc ?_ _))) hb); replace BS := Aside0.mk (blk_below (g := w5.heap.size) (o := .cells #[.int .i64 lo, .int .i64 hi] 46 (0, 0)) (by (with_reducible repeat (first | exact BS.out | refine blk_drewN ?_ _ | refine blk_drew ?_ | refine blk_alloc ?_ _))) hb); clear hb; (try clear p0 p1 p2 p3); (try clear lt_B3); have lt_B3 := blk_lt B3.out; obtain ⟨p0, p1, p2, p3⟩ := cells4 B3.out; (try clear q0 q1); (try clear lt_BS); have lt_BS := blk_lt BS.out; obtain ⟨q0, q1⟩ := cells2 BS.out) | ((with_reducible refine (explains_at (l := [k]) (HU.out.below (by repeat (first | (with_reducible exact Below.refl _ _) | apply below_alloc | apply pw_below_drewN | apply below_drew1))) (InL.one (by first | exact blk_new _ _ | exact blk_new' (by simp))) (by simp)).mono ?_); (rw [HE1.out]); rintro e w7 ⟨rfl, hb⟩; clear HU; replace HB := Aside0.mk (below_step (by repeat (first | (with_reducible exact HB.out) | apply below_alloc | apply pw_below_drewN | apply below_drew1 | refine below_set ?_ (by omega))) hb); replace B3 := Aside0.mk (blk_below (g := W.heap.size) (o := .cells #[.slice A0 lots.length c0, .slice A1 samples.length c1, .int .i64 spread, .slice A3 labs.length c3] 26 (0, 0)) (by (with_reducible repeat (first | exact B3.out | refine blk_drewN ?_ _ | refine blk_drew ?_ | refine blk_alloc ?_ _))) hb); replace BS := Aside0.mk (blk_below (g := w5.heap.size) (o := .cells #[.int .i64 lo, .int .i64 hi] 46 (0, 0)) (by (with_reducible repeat (first | exact BS.out | refine blk_drewN ?_ _ | refine blk_drew ?_ | refine blk_alloc ?_ _))) hb); clear hb; (try clear p0 p1 p2 p3); (try clear lt_B3); have lt_B3 := blk_lt B3.out; obtain ⟨p0, p1, p2, p3⟩ := cells4 B3.out; (try clear q0 q1); (try clear lt_BS); have lt_BS := blk_lt BS.out; obtain ⟨q0, q1⟩ := cells2 BS.out)) | (go_at_call 32; refine Aside0.out ?_))
 refine ⟨?_⟩
 refine (shifts_at HU.out k).mono ?_
 rw [HT.out]
 rintro e w8 ⟨rfl, hb⟩
 replace HB := Aside0.mk (below_step (by repeat (first | (with_reducible exact HB.out) | apply below_alloc | apply pw_below_drewN | apply below_drew1 | refine below_set ?_ (by omega))) hb)
 replace B3 := Aside0.mk (blk_below (g := W.heap.size) (o := .cells #[.slice A0 lots.length c0, .slice A1 samples.length c1, .int .i64 spread, .slice A3 labs.length c3] 26 (0, 0)) (by (with_reducible repeat (first | exact B3.out | refine blk_drewN ?_ _ | refine blk_drew ?_ | refine blk_alloc ?_ _))) hb)
 replace BS := Aside0.mk (blk_below (g := w5.heap.size) (o := .cells #[.int .i64 lo, .int .i64 hi] 46 (0, 0)) (by (with_reducible repeat (first | exact BS.out | refine blk_drewN ?_ _ | refine blk_drew ?_ | refine blk_alloc ?_ _))) hb)
 clear hb
 (try clear p0 p1 p2 p3)
 (try clear lt_B3)
 have lt_B3 := blk_lt B3.out
 obtain ⟨p0, p1, p2, p3⟩ := cells4 B3.out
 (try clear q0 q1)
 (try clear lt_BS)
 have lt_BS := blk_lt BS.out
 obtain ⟨q0, q1⟩ := cells2 BS.out
 clear HU
 have BT := Aside0.mk (blk_new w8 (.cells #[.int .i64 t0, .int .i64 t1] 46))
 obtain ⟨r0, r1⟩ := cells2 BT.out
 have lt_BT := blk_lt BT.out
 subst hb hh ha
 go_wp2_with (first | (go_at_call 18; (with_reducible refine (wakes_any _).mono ?_); rintro e w9 ⟨rfl, hb⟩; replace HB := Aside0.mk (below_step (by repeat (first | (with_reducible exact HB.out) | apply below_alloc | apply pw_below_drewN | apply below_drew1 | refine below_set ?_ (by omega))) hb); replace B3 := Aside0.mk (blk_below (g := W.heap.size) (o := .cells #[.slice A0 lots.length c0, .slice A1 samples.length c1, .int .i64 spread, .slice A3 labs.length c3] 26 (0, 0)) (by (with_reducible repeat (first | exact B3.out | refine blk_drewN ?_ _ | refine blk_drew ?_ | refine blk_alloc ?_ _))) hb); replace BS := Aside0.mk (blk_below (g := w5.heap.size) (o := .cells #[.int .i64 lo, .int .i64 hi] 46 (0, 0)) (by (with_reducible repeat (first | exact BS.out | refine blk_drewN ?_ _ | refine blk_drew ?_ | refine blk_alloc ?_ _))) hb); replace BT := Aside0.mk (blk_below (g := w8.heap.size) (o := .cells #[.int .i64 t0, .int .i64 t1] 46 (0, 0)) (by (with_reducible repeat (first | exact BT.out | refine blk_drewN ?_ _ | refine blk_drew ?_ | refine blk_alloc ?_ _))) hb); clear hb; (try clear p0 p1 p2 p3); (try clear lt_B3); have lt_B3 := blk_lt B3.out; obtain ⟨p0, p1, p2, p3⟩ := cells4 B3.out; (try clear q0 q1); (try clear lt_BS); have lt_BS := blk_lt BS.out; obtain ⟨q0, q1⟩ := cells2 BS.out; (try clear r0 r1); (try clear lt_BT); have lt_BT := blk_lt BT.out; obtain ⟨r0, r1⟩ := cells2 BT.out))
 go_ret
 exact ⟨rfl, HB.out⟩
end Go.Proofs.Ytcpbhklaffgokaa.Q
namespace Go.Proofs.Ytcpbhklaffgokaa.Q
open Go.RowKit Go.Proofs.YtcpbhklaffgokaaW.PrintWords Go.Proofs.YtcpbhklaffgokaaW.PrintLast Go.Proofs.YtcpbhklaffgokaaW.PrintMore
set_option linter.unusedVariables false
set_option linter.unusedSimpArgs false
theorem words_ok {words : List Int} (hm : words.length ≤ 9223372036854775807) (h : ∀ x ∈ words, (Lit.int .u16 x).wf = true) : WordsOk words := ⟨hm, fun x hx => u16_wf (h x hx)⟩
theorem pow_bit (k j : Nat) (hk : k < 6) (hj : j < 6) : bitB (2 ^ k) (j : Int) = decide (j = k) := by
 have : ((2 : Int) ^ k) = ((2 ^ k : Nat) : Int) := by push_cast; rfl
 have hlt : 2 ^ k < 256 := by
  match k, hk with
  | 0, _ | 1, _ | 2, _ | 3, _ | 4, _ | 5, _ => decide
 rw [this, bitB_test _ hlt j (by omega), Nat.testBit_two_pow]
 refine bool_ext ?_
 simp
 omega
theorem off_nil : offOf [] = fun _ => false := rfl
theorem RoundAlike_walk (A0 : Option Addr) (c0 : Nat) (lots : List S44) (A1 : Option Addr) (c1 : Nat) (samples : List Int) (spread : Int) (A3 : Option Addr) (c3 : Nat) (labs : List S62) (Aw : Option Addr) (cw : Nat) (words : List Int) (lab shift : Int) (W : World) {v : Value} (hi : In26 W v A0 c0 lots A1 c1 samples spread A3 c3 labs)
  (hC : (Kd.int .u16).C W Aw words.length words) (hc : words.length ≤ cw) (hm : words.length ≤ 9223372036854775807) (hw : ∀ x ∈ words, (Lit.int .u16 x).wf = true) (wl : (Lit.int .u8 lab).wf = true) (ws : (Lit.int .i16 shift).wf = true) :
  Calls Try.prog 11 #[.agg #[.slice A0 lots.length c0, .slice A1 samples.length c1, .int .i64 spread, .slice A3 labs.length c3], .slice Aw words.length cw, .int .u8 lab, .int .i16 shift] W fun e W' => e = .returned (.bool true) ∧ Below W.heap.size W W' := by
 obtain ⟨b, hb, ht⟩ := ready_ev lots samples spread labs hi.sz
 cases b with
 | false => exact alike_no hi Aw cw words lab shift hb
 | true =>
  obtain ⟨hth, hok⟩ := ht rfl
  by_cases h0 : labs.length = 0
  ·exact alike_none hi Aw cw words lab shift hb h0
  ·have hwd := words_ok hm hw
   obtain ⟨l0, l1⟩ := u8_wf wl
   obtain ⟨s0, s1⟩ := i16_wf ws
   have hck := check_of_ok hok
   have h6 : labs.length ≤ 6 := by have := hok.b6; rwa [List.length_map] at this
   have k0 := Int.tmod_nonneg (labs.length : Int) l0
   have k1 := Int.tmod_lt_of_pos lab (show (0 : Int) < labs.length by omega)
   have n1 := Int.tmod_lt_of_pos shift (show (0 : Int) < 1000 by omega)
   have n0 : -1000 < Int.tmod shift 1000 := by
    rcases Int.le_total 0 shift with h | h
    ·have := Int.tmod_nonneg 1000 h
     omega
    ·have := Int.tmod_lt_of_pos (-shift) (show (0 : Int) < 1000 by omega)
     rw [Int.neg_tmod] at this
     omega
   obtain ⟨k, hk⟩ : ∃ k, Int.tmod lab (labs.length : Int) = k := ⟨_, rfl⟩
   obtain ⟨n, hn⟩ : ∃ n, Int.tmod shift 1000 = n := ⟨_, rfl⟩
   rw [hk] at k0 k1
   rw [hn] at n0 n1
   obtain ⟨K, rfl⟩ : ∃ K : Nat, k = (K : Int) := ⟨k.toNat, by omega⟩
   have hokX := read_ok (words := words) (bits := 2 ^ ((K : Int)).toNat) (shift := n) hok
   have hlX : ((readF lots samples spread labs words (2 ^ ((K : Int)).toNat) n labs.length).map m75).length = labs.length := by rw [List.length_map, readF_length]
   have hbit : ∀ j, j < labs.length → bitB (2 ^ ((K : Int)).toNat) (j : Int) = decide (j = K) := fun j hj => by rw [Int.toNat_natCast]; exact pow_bit K j (by omega) (by omega)
   have hcan : canF (lots.map m46) samples spread ((readF lots samples spread labs words (2 ^ ((K : Int)).toNat) n labs.length).map m75) (oneOff (K : Int)) = true :=
    truth_can hok hwd _ (-1) 0 fun j hj ho => ⟨fun h => by omega, fun _ => by
     rw [hbit j hj]
     unfold oneOff at ho
     rw [Int.toNat_natCast] at ho
     simpa using ho⟩
   have hS : canS (lots.map m46) samples spread ((readF lots samples spread labs words (2 ^ ((K : Int)).toNat) n labs.length).map m75) (K : Int) n = true :=
    truth_can hok hwd _ (K : Int) n fun j hj ho => ⟨fun h => ⟨by rw [hbit j hj]; exact decide_eq_true (by omega), rfl⟩, fun h => by rw [hbit j hj]; exact decide_eq_false (by omega)⟩
   have hinX : withinB (K : Int) 0 (((((readF lots samples spread labs words (2 ^ ((K : Int)).toNat) n labs.length).map m75).length : Nat) : Int) - 1) = true := by
    rw [hlX]
    simp only [withinB, Bool.and_eq_true, decide_eq_true_eq]
    omega
   have hin : withinB (K : Int) 0 ((((labs.map m75).length : Nat) : Int) - 1) = true := by
    rw [List.length_map]
    simp only [withinB, Bool.and_eq_true, decide_eq_true_eq]
    omega
   obtain ⟨lo, hi2, hx, q0, q1⟩ : ∃ lo hi2, shiftsF (lots.map m46) samples spread ((readF lots samples spread labs words (2 ^ ((K : Int)).toNat) n labs.length).map m75) (K : Int) = (⟨lo, hi2⟩, 0) ∧ lo ≤ n ∧ n ≤ hi2 := by
    rcases shifts_found hokX (K : Int) with ⟨e0, e1, hno⟩ | ⟨b0, b1, b2, hall⟩
    ·rw [hno n (by omega) (by omega)] at hS
     cases hS
    ·refine ⟨_, _, shiftsF_d (check_of_ok hokX) hinX hcan (fun h => by omega), ?_⟩
     rw [hall n (by omega) (by omega), Bool.and_eq_true, decide_eq_true_eq, decide_eq_true_eq] at hS
     exact hS
   have he0 : explainsF (lots.map m46) samples spread (labs.map m75) [] = (canF (lots.map m46) samples spread (labs.map m75) (offOf []), 0) := explainsF_ok hok (rising_of List.Pairwise.nil (fun x hx => by cases hx))
   have he1 : explainsF (lots.map m46) samples spread (labs.map m75) [(K : Int)] = (canF (lots.map m46) samples spread (labs.map m75) (offOf [(K : Int)]), 0) := explainsF_ok hok (rising_of (List.pairwise_singleton _ _) (fun x hx => by rw [List.mem_singleton.1 hx, List.length_map]; omega))
   rw [off_one _ (by omega)] at he1
   have hz : canS (lots.map m46) samples spread (labs.map m75) (K : Int) 0 = canF (lots.map m46) samples spread (labs.map m75) (offOf []) := by
    refine bool_ext ?_
    unfold canS canF
    rw [can_iff hok, can_iff hok]
    have hsm : ∀ i : Int, ∀ x, inR x (sampR (labs.map m75) (fun _ => false) (K : Int) 0 i) ↔ inR x (sampR (labs.map m75) (offOf []) (-1) 0 i) := fun i x => by
     rw [sampR_iff, sampR_iff]
     refine and_congr_right fun _ => forall_congr' fun j => forall_congr' fun hj => ?_
     rw [off_nil]
     refine forall_congr' fun _ => forall_congr' fun _ => ?_
     unfold rangeOf
     rw [if_neg (show ¬ (j : Int) = -1 by omega)]
     simp
    unfold fitsP
    simp only [hsm]
   cases hcan1 : canF (lots.map m46) samples spread (labs.map m75) (oneOff (K : Int))
   ·rw [hcan1] at he1
    have hne : canF (lots.map m46) samples spread (labs.map m75) (offOf []) = false := by
     cases hcc : canF (lots.map m46) samples spread (labs.map m75) (offOf [])
     ·rfl
     ·rw [can_mono hok (offOf []) (oneOff (K : Int)) (fun j hj h => by rw [off_nil] at h; cases h) hcc] at hcan1
      cases hcan1
    rw [hne] at he0
    exact alike_fail hi Aw cw words hC hc hwd lab shift l0 l1 (by omega) (by omega) hb hth hok (by omega) _ _ hk hn (by omega) k1 n0 n1 lo hi2 hx q0 q1 _ _ he0 he1 0 0 9 (shiftsF_b hck hin hcan1) rfl rfl rfl
   ·rw [hcan1] at he1
    rcases shifts_found hok (K : Int) with ⟨e0, e1, hno⟩ | ⟨b0, b1, b2, hall⟩
    ·rw [hno 0 (by omega) (by omega)] at hz
     rw [← hz] at he0
     exact alike_err hi Aw cw words hC hc hwd lab shift l0 l1 (by omega) (by omega) hb hth hok (by omega) _ _ hk hn (by omega) k1 n0 n1 lo hi2 hx q0 q1 _ _ he0 he1 0 0 7 (shiftsF_c hck hin hcan1 ⟨e0, e1⟩) rfl rfl rfl
    ·rw [hall 0 (by omega) (by omega)] at hz
     rw [← hz] at he0
     have hsx := shiftsF_d hck hin hcan1 (fun h => by omega)
     generalize shK (canS (lots.map m46) samples spread (labs.map m75) (K : Int)) 4001 = r at b0 b1 b2 hall hz he0 hsx
     obtain ⟨t0, t1⟩ := r
     by_cases g0 : t0 ≤ 0
     ·by_cases g1 : 0 ≤ t1
      ·exact alike_some1 hi Aw cw words hC hc hwd lab shift l0 l1 (by omega) (by omega) hb hth hok (by omega) _ _ hk hn (by omega) k1 n0 n1 lo hi2 hx q0 q1 _ _ he0 he1 t0 t1 0 hsx rfl rfl g0 g1 (by simp only [decide_eq_true g0, decide_eq_true g1]; rfl)
      ·exact alike_some2 hi Aw cw words hC hc hwd lab shift l0 l1 (by omega) (by omega) hb hth hok (by omega) _ _ hk hn (by omega) k1 n0 n1 lo hi2 hx q0 q1 _ _ he0 he1 t0 t1 0 hsx rfl rfl g0 g1 (by simp only [decide_eq_false g1, Bool.and_false])
     ·exact alike_some3 hi Aw cw words hC hc hwd lab shift l0 l1 (by omega) (by omega) hb hth hok (by omega) _ _ hk hn (by omega) k1 n0 n1 lo hi2 hx q0 q1 _ _ he0 he1 t0 t1 0 hsx rfl rfl g0 (by simp only [decide_eq_false g0, Bool.false_and])
end Go.Proofs.Ytcpbhklaffgokaa.Q
