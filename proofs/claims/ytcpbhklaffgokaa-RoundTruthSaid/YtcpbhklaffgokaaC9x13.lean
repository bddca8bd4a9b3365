import Derived.IntWalk
import Derived.Test.YtcpbhklaffgokaaC9x12
namespace Go.Proofs.Ytcpbhklaffgokaa.Q
open Go.RowKit Go.Proofs.YtcpbhklaffgokaaW.PrintWords Go.Proofs.YtcpbhklaffgokaaW.PrintLast Go.Proofs.YtcpbhklaffgokaaW.PrintMore
set_option linter.unusedVariables false
set_option linter.unusedSimpArgs false
theorem word_any (A : Option Addr) (c : Nat) (words : List Int) (w : World) (hC : (Kd.int .u16).C w A words.length words) (hc : words.length ≤ c) (hw : WordsOk words) (at_ : Int) (h0 : 0 ≤ at_) :
  Calls Try.prog 61 #[.slice A words.length c, .int .i64 at_] w fun e w' => e = .returned (.int .i64 (wordF words at_)) ∧ ∃ n, w' = w.drewN n := by
 refine (tensilelaw08_word.calls A c words at_ _ w hC hc (word_eq hw at_ h0)).mono ?_
 rintro e w' ⟨rfl, ⟨n, rfl⟩⟩
 exact ⟨rfl, n, rfl⟩
section
variable (lots : List S44) (samples : List Int) (spread : Int) (labs : List S62) (words : List Int) (bits shift : Int)
def readM (k i : Nat) : Int :=
 if bitB bits (k : Int) = true then trueV lots samples spread words i - (rd_T62 labs (k : Int)).f0 + wordF words (5 * (k : Int) + (i : Int)) % (2 * (rd_T62 labs (k : Int)).f0 + 1) + shift
 else trueV lots samples spread words i - (rd_T62 labs (k : Int)).f0 + wordF words (5 * (k : Int) + (i : Int)) % (2 * (rd_T62 labs (k : Int)).f0 + 1)
def readN (k i : Nat) : Int := if rd (rd_T62 labs (k : Int)).f1 (i : Int) < 0 ∨ ¬ (0 ≤ readM lots samples spread labs words bits shift k i ∧ readM lots samples spread labs words bits shift k i ≤ 1000) then -1 else readM lots samples spread labs words bits shift k i
def readRow (k i : Nat) : List Int := (List.range i).map (readN lots samples spread labs words bits shift k)
def readF (k : Nat) : List S62 := (List.range k).map fun (k : Nat) => ⟨(rd_T62 labs (k : Int)).f0, readRow lots samples spread labs words bits shift k samples.length⟩
theorem readRow_snoc (k i : Nat) : readRow lots samples spread labs words bits shift k (i + 1) = readRow lots samples spread labs words bits shift k i ++ [readN lots samples spread labs words bits shift k i] := by unfold readRow; rw [List.range_succ, List.map_append]; rfl
theorem readRow_length (k i : Nat) : (readRow lots samples spread labs words bits shift k i).length = i := by unfold readRow; rw [List.length_map, List.length_range]
theorem readF_snoc (k : Nat) : readF lots samples spread labs words bits shift (k + 1) = readF lots samples spread labs words bits shift k ++ [⟨(rd_T62 labs (k : Int)).f0, readRow lots samples spread labs words bits shift k samples.length⟩] := by unfold readF; rw [List.range_succ, List.map_append]; rfl
theorem readF_length (k : Nat) : (readF lots samples spread labs words bits shift k).length = k := by unfold readF; rw [List.length_map, List.length_range]
end
theorem true_at {W : World} {v : Value} {A0 : Option Addr} {c0 : Nat} {lots : List S44} {A1 : Option Addr} {c1 : Nat} {samples : List Int} {spread : Int} {A3 : Option Addr} {c3 : Nat} {labs : List S62} (h : In26 W v A0 c0 lots A1 c1 samples spread A3 c3 labs) (hok : RoundOk (lots.map m46) samples spread (labs.map m75)) (Aw : Option Addr) (cw : Nat) (words : List Int) (hC : (Kd.int .u16).C W Aw words.length words) (hc : words.length ≤ cw) (hw : WordsOk words) :
  Calls Try.prog 41 #[.agg #[.slice A0 lots.length c0, .slice A1 samples.length c1, .int .i64 spread, .slice A3 labs.length c3], .slice Aw words.length cw] W (Gets W (fun w' u => InL w' u (trueF lots samples spread words))) := by
 obtain ⟨k, hk⟩ := Ev_rounds (True_ev hok hw)
 refine (tensilelaw08_True.calls k A0 c0 lots A1 c1 samples spread A3 c3 labs Aw cw words _ W h.r0 h.h0 h.r1 h.h1 h.r3 h.h3 hC hc hk).mono ?_
 rintro e w' ⟨u, rfl, hu, hb⟩
 exact ⟨u, rfl, InL.ofR hu, hb⟩
theorem put4 {w : World} {g : Nat} {t : TypeId} {a b c d : Value} (h : w.heap[g]? = some (.cells #[a, b, c, d] t (0, 0))) (u0 u1 u2 u3 : Value) : ((((w.setCell ⟨g, 0, none⟩ u0).setCell ⟨g, 1, none⟩ u1).setCell ⟨g, 2, none⟩ u2).setCell ⟨g, 3, none⟩ u3).heap[g]? = some (.cells #[u0, u1, u2, u3] t (0, 0)) :=
 blk_put (blk_put (blk_put (blk_put h 0 u0 rfl) 1 u1 rfl) 2 u2 rfl) 3 u3 rfl
theorem r4 {α : Type} {d : Kd α} {e : Nat} {w : World} {base g : Nat} {ok : Nat → Prop} {v : Value} {xs : List α} (h : d.R e w base ok v xs) (hg : g < base) (u0 u1 u2 u3 : Value) : d.R e ((((w.setCell ⟨g, 0, none⟩ u0).setCell ⟨g, 1, none⟩ u1).setCell ⟨g, 2, none⟩ u2).setCell ⟨g, 3, none⟩ u3) base ok v xs := by
 have H : ∀ {w : World} (i : Nat) (u : Value), d.R e w base (fun k => ok k ∧ base ≤ k) v xs → d.R e (w.setCell ⟨g, i, none⟩ u) base (fun k => ok k ∧ base ≤ k) v xs := fun i u h => Kd.R_far h (fun k hk => (by have := hk.2; dsimp only; omega)) u
 exact Kd.R_mono (H 3 u3 (H 2 u2 (H 1 u1 (H 0 u0 (Kd.R_mono (Kd.R_bound h) (fun k hk => ⟨hk.1, hk.2.1⟩)))))) (fun k hk => hk.1)
def ReadPost (w : World) (A0 : Option Addr) (c0 n0 : Nat) (A1 : Option Addr) (c1 n1 : Nat) (spread : Int) (L : List S62) (e : Ending) (w' : World) : Prop :=
 ∃ A c, e = .returned (.agg #[.slice A0 n0 c0, .slice A1 n1 c1, .int .i64 spread, .slice A L.length c]) ∧ Kd.C k62 w' A L.length L ∧ L.length ≤ c ∧ Below w.heap.size w w'
set_option maxHeartbeats 4000000 in
set_option maxRecDepth 100000 in
theorem read_any {W : World} {v : Value} {A0 : Option Addr} {c0 : Nat} {lots : List S44} {A1 : Option Addr} {c1 : Nat} {samples : List Int} {spread : Int} {A3 : Option Addr} {c3 : Nat} {labs : List S62} (h : In26 W v A0 c0 lots A1 c1 samples spread A3 c3 labs) (hok : RoundOk (lots.map m46) samples spread (labs.map m75)) (Aw : Option Addr) (cw : Nat) (words : List Int) (hC : (Kd.int .u16).C W Aw words.length words) (hc : words.length ≤ cw) (hw : WordsOk words) (bits shift : Int) (hs0 : -40000 ≤ shift) (hs1 : shift ≤ 40000) (hb0 : 0 ≤ bits) (hb1 : bits < 256) :
  Calls Try.prog 37 #[.agg #[.slice A0 lots.length c0, .slice A1 samples.length c1, .int .i64 spread, .slice A3 labs.length c3], .slice Aw words.length cw, .int .u8 bits, .int .i64 shift] W (ReadPost W A0 c0 lots.length A1 c1 samples.length spread (readF lots samples spread labs words bits shift labs.length)) := by
 have HI := Aside0.mk h
 have h6 : labs.length ≤ 6 := by have := hok.b6; rwa [List.length_map] at this
 have h8 := hok.s8
 have hsp0 := hok.sp0
 have hsp1 := hok.sp1
 have HOk := Aside0.mk hok
 have HW := Aside0.mk hw
 have HCw := Aside0.mk hC
 have HT := Aside0.mk (true_at (h.below (below_alloc (below_alloc (Below.refl _ W) (.cells #[.slice A0 lots.length c0, .slice A1 samples.length c1, .int .i64 spread, .slice A3 labs.length c3] 26)) (.cells #[.slice none 0 0, .slice none 0 0, .int .i64 0, .slice none 0 0] 26))) hok Aw cw words (Kd.C_alloc (Kd.C_alloc hC _) _) hc hw)
 have HB := Aside0.mk (below_alloc (below_alloc (Below.refl _ W) (.cells #[.slice A0 lots.length c0, .slice A1 samples.length c1, .int .i64 spread, .slice A3 labs.length c3] 26)) (.cells #[.slice none 0 0, .slice none 0 0, .int .i64 0, .slice none 0 0] 26))
 have B4 := Aside0.mk (blk_alloc (blk_new W (.cells #[.slice A0 lots.length c0, .slice A1 samples.length c1, .int .i64 spread, .slice A3 labs.length c3] 26)) (.cells #[.slice none 0 0, .slice none 0 0, .int .i64 0, .slice none 0 0] 26))
 have B8 := blk_new (W.alloc (.cells #[.slice A0 lots.length c0, .slice A1 samples.length c1, .int .i64 spread, .slice A3 labs.length c3] 26)) (.cells #[.slice none 0 0, .slice none 0 0, .int .i64 0, .slice none 0 0] 26)
 rw [World.size_alloc] at B8
 replace B8 := Aside0.mk B8
 obtain ⟨p0, p1, p2, p3⟩ := cells4 B4.out
 clear h hok hC hw
 go_enter Try.func37, Try.ntmps37
 go_wp2_with (go_at_call 41; refine Aside0.out ?_)
 refine ⟨?_⟩
 refine HT.out.mono ?_
 clear HT
 generalize ((W.alloc (.cells #[.slice A0 lots.length c0, .slice A1 samples.length c1, .int .i64 spread, .slice A3 labs.length c3] 26)).alloc (.cells #[.slice none 0 0, .slice none 0 0, .int .i64 0, .slice none 0 0] 26)) = w0 at HB B4 B8 p0 p1 p2 p3 ⊢
 rintro e w1 ⟨uV, rfl, hV, hb⟩
 obtain ⟨aV, cV, rfl, hcV, hV⟩ := hV
 rw [trueF_length] at hcV hV ⊢
 have HV := Aside0.mk hV
 replace HB := Aside0.mk (below_step HB.out hb)
 replace B4 := Aside0.mk (blk_below B4.out hb)
 replace B8 := Aside0.mk (blk_below B8.out hb)
 clear hb hV p0 p1 p2 p3
 obtain ⟨p0, p1, p2, p3⟩ := cells4 B4.out
 have lt_B4 := blk_lt B4.out
 have lt_B8 := blk_lt B8.out
 go_wp2
 have BO := Aside0.mk (blk_new w1 (.cells #[.slice A0 lots.length c0, .slice A1 samples.length c1, .int .i64 spread, .slice none 0 0] 26))
 replace B4 := Aside0.mk (blk_alloc B4.out (.cells #[.slice A0 lots.length c0, .slice A1 samples.length c1, .int .i64 spread, .slice none 0 0] 26))
 replace B8 := Aside0.mk (blk_alloc B8.out (.cells #[.slice A0 lots.length c0, .slice A1 samples.length c1, .int .i64 spread, .slice none 0 0] 26))
 have HB1 := Aside0.mk (below_alloc (Below.refl _ w1) (.cells #[.slice A0 lots.length c0, .slice A1 samples.length c1, .int .i64 spread, .slice none 0 0] 26))
 clear p0 p1 p2 p3
 generalize w1.alloc (.cells #[.slice A0 lots.length c0, .slice A1 samples.length c1, .int .i64 spread, .slice none 0 0] 26) = w2 at BO B4 B8 HB1 ⊢
 go_loopw [11] (fun q wr => ∃ k : Nat, k ≤ labs.length ∧ q = .int .i64 (k : Int) ∧ ∃ vL : Value, Aside0 (wr.heap[W.heap.size]? = some (.cells #[.slice A0 lots.length c0, .slice A1 samples.length c1, .int .i64 spread, .slice A3 labs.length c3] 26 (0, 0))) ∧ Aside0 (wr.heap[W.heap.size + 1]? = some (.cells #[.slice none 0 0, .slice none 0 0, .int .i64 0, .slice none 0 0] 26 (0, 0))) ∧ Aside0 (Below w1.heap.size w1 wr) ∧ Aside0 (wr.heap[w1.heap.size]? = some (.cells #[.slice A0 lots.length c0, .slice A1 samples.length c1, .int .i64 spread, vL] 26 (0, 0))) ∧ Aside0 (Kd.R k62 62 wr w1.heap.size (fun _ => True) vL (readF lots samples spread labs words bits shift k))) (fun q _ => labs.length - (intOf q).toNat)
 case atStart => exact ⟨0, Nat.zero_le _, rfl, _, B4, B8, HB1, BO, ⟨Kd.R_nil _ _ _ _ _⟩⟩
 case round =>
  clear B4 B8 HB1 BO
  obtain ⟨k, hk, rfl, vL, B4, B8, HB1, BO, HL⟩ := hrel
  obtain ⟨p0, p1, p2, p3⟩ := cells4 B4.out
  obtain ⟨o0, o1, o2, o3⟩ := cells4 BO.out
  have lt_B4' := blk_lt B4.out
  have lt_B8' := blk_lt B8.out
  have lt_BO := blk_lt BO.out
  by_cases hlt : k < labs.length
  ·obtain ⟨adL, AL, cL, hAL, hy0, hy1, hyl, hyc⟩ := at_T62 (HI.out.below (below_step HB.out HB1.out)).r3 (k : Int) (by omega) (by omega)
   subst hAL
   rw [Int.toNat_natCast] at hy0 hy1
   have HX := Aside0.mk (HOk.out.labs _ (List.mem_map_of_mem (mem_drop0 (rd62_drop labs k hlt))))
   have hx0 : 0 ≤ (rd_T62 labs (k : Int)).f0 := HX.out.1
   have hx1 : (rd_T62 labs (k : Int)).f0 ≤ 100 := HX.out.2.1
   have HXl := Aside0.mk (show (rd_T62 labs (k : Int)).f1.length = samples.length from HX.out.2.2.1)
   have e1 : decide (0 ≤ (k : Int)) = true := decide_eq_true (by omega)
   have e2 : decide ((k : Int) < (labs.length : Int)) = true := decide_eq_true (by omega)
   go_wp2
   have BX := Aside0.mk (blk_new wr (.cells #[.int .i64 (rd_T62 labs (k : Int)).f0, .slice none 0 0] 62))
   replace B4 := Aside0.mk (blk_alloc B4.out (.cells #[.int .i64 (rd_T62 labs (k : Int)).f0, .slice none 0 0] 62))
   replace B8 := Aside0.mk (blk_alloc B8.out (.cells #[.int .i64 (rd_T62 labs (k : Int)).f0, .slice none 0 0] 62))
   replace BO := Aside0.mk (blk_alloc BO.out (.cells #[.int .i64 (rd_T62 labs (k : Int)).f0, .slice none 0 0] 62))
   replace HB1 := Aside0.mk (below_alloc HB1.out (.cells #[.int .i64 (rd_T62 labs (k : Int)).f0, .slice none 0 0] 62))
   have HLx : Aside0 (Kd.R k62 62 (wr.alloc (.cells #[.int .i64 (rd_T62 labs (k : Int)).f0, .slice none 0 0] 62)) w1.heap.size (fun kk => kk ≠ wr.heap.size ∧ some kk ≠ (Value.slice none 0 0 : Value).ownBlock) vL (readF lots samples spread labs words bits shift k)) := ⟨Kd.R_alloc (Kd.R_mono (Kd.R_bound HL.out) (fun kk hkk => ⟨by have := hkk.2.2.1; omega, by simp [Value.ownBlock]⟩)) _⟩
   clear HL p0 p1 p2 p3 o0 o1 o2 o3 hy0 hy1 hyl hyc
   generalize hwx : wr.alloc (.cells #[.int .i64 (rd_T62 labs (k : Int)).f0, .slice none 0 0] 62) = wx at BX B4 B8 BO HB1 HLx ⊢
   clear hwx
   generalize wr.heap.size = gx at BX HLx lt_B4' lt_B8' lt_BO ⊢
   go_loopw [13] (fun q wr => ∃ i : Nat, i ≤ samples.length ∧ q = .int .i64 (i : Int) ∧ ∃ vR : Value, Aside0 (wr.heap[W.heap.size]? = some (.cells #[.slice A0 lots.length c0, .slice A1 samples.length c1, .int .i64 spread, .slice (some adL) labs.length c3] 26 (0, 0))) ∧ Aside0 (wr.heap[W.heap.size + 1]? = some (.cells #[.slice none 0 0, .slice none 0 0, .int .i64 0, .slice none 0 0] 26 (0, 0))) ∧ Aside0 (Below w1.heap.size w1 wr) ∧ Aside0 (wr.heap[w1.heap.size]? = some (.cells #[.slice A0 lots.length c0, .slice A1 samples.length c1, .int .i64 spread, vL] 26 (0, 0))) ∧ Aside0 (wr.heap[gx]? = some (.cells #[.int .i64 (rd_T62 labs (k : Int)).f0, vR] 62 (0, 0))) ∧ Aside0 ((Kd.int .i64).R 3 wr w1.heap.size (fun _ => True) vR (readRow lots samples spread labs words bits shift k i)) ∧ Aside0 (Kd.R k62 62 wr w1.heap.size (fun kk => kk ≠ gx ∧ some kk ≠ vR.ownBlock) vL (readF lots samples spread labs words bits shift k))) (fun q _ => samples.length - (intOf q).toNat)
   case atStart => exact ⟨0, Nat.zero_le _, rfl, _, B4, B8, HB1, BO, BX, ⟨Kd.R_nil _ _ _ _ _⟩, HLx⟩
   case round =>
    clear B4 B8 HB1 BO BX HLx
    obtain ⟨i, hi, rfl, vR, B4, B8, HB1, BO, BX, HR, HL⟩ := hrel
    obtain ⟨p0, p1, p2, p3⟩ := cells4 B4.out
    obtain ⟨o0, o1, o2, o3⟩ := cells4 BO.out
    obtain ⟨x0, x1⟩ := cells2 BX.out
    have z0 := blk_frozen BX.out 0
    have z1 := blk_frozen BX.out 1
    have z3 := blk_frozen BO.out 3
    have lt_4 := blk_lt B4.out
    have lt_8 := blk_lt B8.out
    have lt_O := blk_lt BO.out
    have lt_X := blk_lt BX.out
    by_cases hlti : i < samples.length
    ·obtain ⟨adL2, AL2, cL2, hAL2, hy0, hy1, hyl, hyc⟩ := at_T62 (HI.out.below (below_step HB.out HB1.out)).r3 (k : Int) (by omega) (by omega)
     injection hAL2 with hAL2
     subst hAL2
     rw [Int.toNat_natCast] at hy0 hy1
     have hle : (i : Int) < ((rd_T62 labs (k : Int)).f1.length : Int) := by rw [HXl.out]; omega
     obtain ⟨adR, hAR, hyR⟩ := Kd.at_int hyc (i : Int) (by omega) hle
     subst hAR
     rw [Int.toNat_natCast] at hyR
     have HVw := Kd.C_below HV.out HB1.out
     obtain ⟨adV, hAV, hyV⟩ := Kd.at_int (n := samples.length) HVw (i : Int) (by omega) (by omega)
     subst hAV
     rw [Int.toNat_natCast, trueF_get i hlti] at hyV
     clear HVw
     have htv := trueV_bd HOk.out HW.out i hlti
     have hwv := wordF_bd HW.out (5 * (k : Int) + (i : Int)) (by omega)
     have HWd := Aside0.mk (fun (n : Nat) => word_any Aw cw words (wr.drewN n) (Kd.C_drewN (Kd.C_below HCw.out (below_step HB.out HB1.out)) n) hc HW.out (5 * (k : Int) + (i : Int)) (by omega))
     have HM := Aside0.mk (show readM lots samples spread labs words bits shift k i = if bitB bits (k : Int) = true then trueV lots samples spread words i - (rd_T62 labs (k : Int)).f0 + wordF words (5 * (k : Int) + (i : Int)) % (2 * (rd_T62 labs (k : Int)).f0 + 1) + shift else trueV lots samples spread words i - (rd_T62 labs (k : Int)).f0 + wordF words (5 * (k : Int) + (i : Int)) % (2 * (rd_T62 labs (k : Int)).f0 + 1) from rfl)
     have HN := Aside0.mk (show readN lots samples spread labs words bits shift k i = if rd (rd_T62 labs (k : Int)).f1 (i : Int) < 0 ∨ ¬ (0 ≤ readM lots samples spread labs words bits shift k i ∧ readM lots samples spread labs words bits shift k i ≤ 1000) then -1 else readM lots samples spread labs words bits shift k i from rfl)
     have HS := Aside0.mk (readRow_snoc lots samples spread labs words bits shift k i)
     rw [← Int.tmod_eq_emod_of_nonneg hwv.1] at HM
     generalize readN lots samples spread labs words bits shift k i = nv at HN HS
     generalize readM lots samples spread labs words bits shift k i = mv at HM HN
     generalize rd (rd_T62 labs (k : Int)).f1 (i : Int) = rg at hyR HN
     generalize trueV lots samples spread words i = tv at hyV htv HM
     have hm0 : 0 ≤ Int.tmod (wordF words (5 * (k : Int) + (i : Int))) (2 * (rd_T62 labs (k : Int)).f0 + 1) := Int.tmod_nonneg _ hwv.1
     have hm1 := Int.tmod_lt_of_pos (wordF words (5 * (k : Int) + (i : Int))) (show 0 < 2 * (rd_T62 labs (k : Int)).f0 + 1 by omega)
     generalize wordF words (5 * (k : Int) + (i : Int)) = wv at HWd HM hwv hm0 hm1
     obtain ⟨m, hm⟩ : ∃ m, Int.tmod wv (2 * (rd_T62 labs (k : Int)).f0 + 1) = m := ⟨_, rfl⟩
     rw [hm] at hm0 hm1 HM
     obtain ⟨t0, t1⟩ := htv
     obtain ⟨v0, v1⟩ := hwv
     have s1 : IntKind.i64.wrap (tv - (rd_T62 labs (k : Int)).f0) = tv - (rd_T62 labs (k : Int)).f0 := IntWalk.i64_in _ (by omega)
     have s2 : IntKind.i64.wrap (5 * (k : Int)) = 5 * (k : Int) := IntWalk.i64_in _ (by omega)
     have s3 : IntKind.i64.wrap (5 * (k : Int) + (i : Int)) = 5 * (k : Int) + (i : Int) := IntWalk.i64_in _ (by omega)
     have s4 : IntKind.i64.wrap (2 * (rd_T62 labs (k : Int)).f0) = 2 * (rd_T62 labs (k : Int)).f0 := IntWalk.i64_in _ (by omega)
     have s5 : IntKind.i64.wrap (2 * (rd_T62 labs (k : Int)).f0 + 1) = 2 * (rd_T62 labs (k : Int)).f0 + 1 := IntWalk.i64_in _ (by omega)
     have s6 : IntKind.i64.wrap (tv - (rd_T62 labs (k : Int)).f0 + m) = tv - (rd_T62 labs (k : Int)).f0 + m := IntWalk.i64_in _ (by omega)
     have s7 : IntKind.i64.wrap (tv - (rd_T62 labs (k : Int)).f0 + m + shift) = tv - (rd_T62 labs (k : Int)).f0 + m + shift := IntWalk.i64_in _ (by omega)
     have hz : (2 * (rd_T62 labs (k : Int)).f0 + 1 == 0) = false := by rw [beq_eq_false_iff_ne]; omega
     have e3 : decide (0 ≤ (i : Int)) = true := decide_eq_true (by omega)
     have e4 : decide ((i : Int) < (samples.length : Int)) = true := decide_eq_true (by omega)
     have e5 : decide ((i : Int) < ((rd_T62 labs (k : Int)).f1.length : Int)) = true := decide_eq_true (by omega)
     go_wp2
     go_quiet ((go_at_call 61; (with_reducible refine (HWd.out _).mono ?_); rintro e w' ⟨rfl, ⟨nd, rfl⟩⟩; (try first | exact ⟨rfl, _, World.drewN_drewN _ _ _⟩ | exact ⟨rfl, _, Eq.trans (World.drewN_drewN _ _ _) (congrArg (World.drewN _) (Nat.add_assoc _ _ _))⟩)))
     clear HWd hm hz s1 s2 s3 s4 s5 s6 e3 hyV
     have hk2 : IntKind.u64.wrap (k : Int) = (k : Int) := IntWalk.u64_in _ (by omega)
     have hbb : Int.tmod (bits / 2 ^ k) 2 = 1 ↔ bitB bits (k : Int) = true := by
      unfold bitB
      rw [hk2, decide_eq_true_eq]
      unfold shr
      rw [Int.toNat_natCast, Nat.min_eq_left (by simp [IntKind.bits]; omega)]
     obtain ⟨sh, hsh⟩ : ∃ sh, bits / 2 ^ k = sh := ⟨_, rfl⟩
     rw [hsh] at hbb
     generalize bitB bits (k : Int) = bb at HM hbb
     have hs : (Int.tmod sh 2 == 1) = bb := by rw [Bool.eq_iff_iff, beq_iff_eq]; exact hbb
     go_upto_if 65 with fail
     clear hbb hs
     go_cut [14] (fun q wc => q = .int .i64 mv ∧ ∃ n, wc = wr.drewN n)
     case first =>
      cases bb with
      | true =>
       go_wp2
       go_meet
       case rel => exact ⟨by rw [HM.out]; rfl, _, rfl⟩
      | false =>
       go_wp2
       go_meet
       case rel => exact ⟨by rw [HM.out]; rfl, _, rfl⟩
     case rest =>
      obtain ⟨rfl, nq, rfl⟩ := hcut
      clear hsh hk2 s7
      go_upto_region 14 with fail
      have HIn := Aside0.mk (In_any mv 0 1000)
      go_cut [83] (fun q wc => q = .bool (decide (rg < 0 ∨ ¬ (0 ≤ mv ∧ mv ≤ 1000))) ∧ ∃ n, wc = wr.drewN n)
      case first =>
       by_cases hrg : rg < 0
       ·have hr : decide (rg < 0) = true := decide_eq_true hrg
        go_wp2
        go_meet
        case rel => exact ⟨by simp [hrg], _, rfl⟩
       ·have hr : decide (rg < 0) = false := decide_eq_false hrg
        go_wp2_with (go_at_call 33; (with_reducible refine (HIn.out _).mono ?_); rintro e w5 ⟨rfl, rfl⟩)
        go_meet
        case rel => exact ⟨congrArg Value.bool (by unfold withinB; rw [Bool.eq_iff_iff]; simp; omega), _, rfl⟩
      case rest =>
       obtain ⟨rfl, nq, rfl⟩ := hcut
       clear HIn
       go_upto_if 83 with fail
       go_cut [14] (fun q wc => q = .int .i64 nv ∧ ∃ n, wc = wr.drewN n)
       case first =>
        by_cases hcc : rg < 0 ∨ ¬ (0 ≤ mv ∧ mv ≤ 1000)
        ·have hd : decide (rg < 0 ∨ ¬ (0 ≤ mv ∧ mv ≤ 1000)) = true := decide_eq_true hcc
         rw [hd]
         go_wp2
         go_meet
         case rel => exact ⟨by rw [HN.out, if_pos hcc], _, rfl⟩
        ·have hd : decide (rg < 0 ∨ ¬ (0 ≤ mv ∧ mv ≤ 1000)) = false := decide_eq_false hcc
         rw [hd]
         go_wp2
         go_meet
         case rel => exact ⟨by rw [HN.out, if_neg hcc], _, rfl⟩
       case rest =>
        obtain ⟨rfl, nq, rfl⟩ := hcut
        clear HM HN hyR hy0 hy1
        go_wp2_with (first | ((with_reducible refine gate_builtin (b := .append) (xs := #[.tmp 85, .tmp 87]) rfl ?_); at_builtin; refine Kd.R_append (Kd.int .i64) (w0 := w1) w1.heap.size rfl (.tmp 85) (.tmp 87) 23 3 (.int .i64 0) 8 rfl Try.underlying23 info3 rfl (by decide) (by omega) vR (readRow lots samples spread labs words bits shift k i) nv [.int .i64 nv] (fun _ => True) (fun _ => False) rfl rfl rfl (fun _ hk => hk.elim) (fun _ _ => trivial) (by (with_reducible repeat (first | apply Kd.R_alloc | apply Kd.R_drewN | apply Kd.R_drew)); exact HR.out) (by repeat (first | (with_reducible exact HB1.out) | apply below_alloc | apply pw_below_drewN | apply below_drew1)) (below_size (by repeat (first | (with_reducible exact HB1.out) | apply below_alloc | apply pw_below_drewN | apply below_drew1))) (by rw [readRow_length]; omega) ?_; intro v4 w4 ho hb hg hat; rw [← HS.out] at ho; have n_B4 := Aside0.mk (blk_grown (g := W.heap.size) (o := .cells #[.slice A0 lots.length c0, .slice A1 samples.length c1, .int .i64 spread, .slice (some adL) labs.length c3] 26 (0, 0)) (by (with_reducible repeat (first | exact B4.out | refine blk_drewN ?_ _ | refine blk_drew ?_ | refine blk_alloc ?_ _))) hg (Kd.R_ne HR.out B4.out (by decide))); have n_B8 := Aside0.mk (blk_grown (g := W.heap.size + 1) (o := .cells #[.slice none 0 0, .slice none 0 0, .int .i64 0, .slice none 0 0] 26 (0, 0)) (by (with_reducible repeat (first | exact B8.out | refine blk_drewN ?_ _ | refine blk_drew ?_ | refine blk_alloc ?_ _))) hg (Kd.R_ne HR.out B8.out (by decide))); have n_BO := Aside0.mk (blk_grown (g := w1.heap.size) (o := .cells #[.slice A0 lots.length c0, .slice A1 samples.length c1, .int .i64 spread, vL] 26 (0, 0)) (by (with_reducible repeat (first | exact BO.out | refine blk_drewN ?_ _ | refine blk_drew ?_ | refine blk_alloc ?_ _))) hg (Kd.R_ne HR.out BO.out (by decide))); have n_BX := Aside0.mk (blk_grown (g := gx) (o := .cells #[.int .i64 (rd_T62 labs (k : Int)).f0, vR] 62 (0, 0)) (by (with_reducible repeat (first | exact BX.out | refine blk_drewN ?_ _ | refine blk_drew ?_ | refine blk_alloc ?_ _))) hg (Kd.R_ne HR.out BX.out (by decide))); have n_HL := Aside0.mk (Kd.R_after (ok := fun kk => kk ≠ gx) (by (with_reducible repeat (first | apply Kd.R_alloc | apply Kd.R_drewN | apply Kd.R_drew)); exact HL.out) hg hat); have n_HB1 := Aside0.mk hb; have n_HR := Aside0.mk ho; clear p0 p1 p2 p3 o0 o1 o2 o3 x0 x1 z0 z1 z3 ho hb hg hat; clear B4 B8 BO BX HL HB1 HR; have B4 := n_B4; have B8 := n_B8; have BO := n_BO; have BX := n_BX; have HL := n_HL; have HB1 := n_HB1; have HR := n_HR; clear n_B4 n_B8 n_BO n_BX n_HL n_HB1 n_HR; obtain ⟨Ao, co, eo⟩ := Kd.R_slice HR.out; subst eo; have x1 := blk_cell BX.out 1; have z1 := blk_frozen BX.out 1))
        go_roundw
        case rel => exact ⟨i + 1, by omega, by go_num, _, ⟨blk_far B4.out (by simp; omega) _⟩, ⟨blk_far B8.out (by simp; omega) _⟩, ⟨below_set HB1.out (by first | omega | (simp; omega) | simp)⟩, ⟨blk_far BO.out (by simp; omega) _⟩, ⟨blk_put (cs := #[.int .i64 (rd_T62 labs (k : Int)).f0, vR]) BX.out 1 _ rfl⟩, ⟨Kd.R_mono (Kd.R_far (p := ⟨gx, 1, none⟩) (Kd.R_types HR.out BX.out (by decide)) (fun _ hk => hk.2) _) (fun _ _ => trivial)⟩, ⟨Kd.R_far (p := ⟨gx, 1, none⟩) HL.out (fun _ hk => hk.1) _⟩⟩
        case measure => simp [intOf]; omega
    ·have : i = samples.length := by omega
     subst this
     obtain ⟨Ao, co, eo⟩ := Kd.R_slice HR.out
     subst eo
     go_wp2_with (first | ((with_reducible refine gate_builtin (b := .append) (xs := #[.tmp 91, .tmp 93]) rfl ?_); at_builtin; refine Kd.R_append k62 (w0 := w1) w1.heap.size rfl (.tmp 91) (.tmp 93) 24 62 (.agg #[(.int .i64 0), (.slice none 0 0)]) 32 rfl Try.underlying24 info62 rfl (by decide) (by omega) vL (readF lots samples spread labs words bits shift k) (⟨(rd_T62 labs (k : Int)).f0, readRow lots samples spread labs words bits shift k samples.length⟩ : S62) [.int .i64 (rd_T62 labs (k : Int)).f0, .slice Ao (readRow lots samples spread labs words bits shift k samples.length).length co] (fun kk => kk ≠ gx) (fun kk => some kk = (.slice Ao (readRow lots samples spread labs words bits shift k samples.length).length co : Value).ownBlock) rfl rfl (k62_mkM _ _ _ (⟨(rd_T62 labs (k : Int)).f0, readRow lots samples spread labs words bits shift k samples.length⟩ : S62) (Kd.R_mono (Kd.R_tight rfl (Kd.R_mono (ok' := fun kk => kk ≠ gx ∧ some kk ≠ vL.ownBlock) (Kd.R_types (Kd.R_apart' HR.out (Kd.R_typed HL.out) (by decide)) BX.out (by decide)) (fun _ hk => ⟨hk.2, hk.1.2⟩))) (fun _ h_ => h_))) (fun k_ hk_ => (Kd.R_mono (ok' := fun kk => kk ≠ gx ∧ some kk ≠ vL.ownBlock) (Kd.R_types (Kd.R_apart' HR.out (Kd.R_typed HL.out) (by decide)) BX.out (by decide)) (fun _ hk => ⟨hk.2, hk.1.2⟩)).1 k_ hk_.symm) (fun k_ hk => Kd.freshB (g := gx) (o := .cells #[.int .i64 (rd_T62 labs (k : Int)).f0, .slice Ao (readRow lots samples spread labs words bits shift k samples.length).length co] 62 (0, 0)) (by (with_reducible repeat (first | exact BX.out | refine blk_drewN ?_ _ | refine blk_drew ?_ | refine blk_alloc ?_ _))) k_ hk) (by (with_reducible repeat (first | apply Kd.R_alloc | apply Kd.R_drewN | apply Kd.R_drew)); exact Kd.R_mono HL.out (fun _ hk => hk.1)) (by repeat (first | (with_reducible exact HB1.out) | apply below_alloc | apply pw_below_drewN | apply below_drew1)) (below_size (by repeat (first | (with_reducible exact HB1.out) | apply below_alloc | apply pw_below_drewN | apply below_drew1))) (by rw [readF_length]; omega) ?_; intro v4 w4 ho hb hg hat; rw [← readF_snoc] at ho; have n_B4 := Aside0.mk (blk_grown (g := W.heap.size) (o := .cells #[.slice A0 lots.length c0, .slice A1 samples.length c1, .int .i64 spread, .slice (some adL) labs.length c3] 26 (0, 0)) (by (with_reducible repeat (first | exact B4.out | refine blk_drewN ?_ _ | refine blk_drew ?_ | refine blk_alloc ?_ _))) hg (Kd.R_ne HL.out B4.out (by decide))); have n_B8 := Aside0.mk (blk_grown (g := W.heap.size + 1) (o := .cells #[.slice none 0 0, .slice none 0 0, .int .i64 0, .slice none 0 0] 26 (0, 0)) (by (with_reducible repeat (first | exact B8.out | refine blk_drewN ?_ _ | refine blk_drew ?_ | refine blk_alloc ?_ _))) hg (Kd.R_ne HL.out B8.out (by decide))); have n_BO := Aside0.mk (blk_grown (g := w1.heap.size) (o := .cells #[.slice A0 lots.length c0, .slice A1 samples.length c1, .int .i64 spread, vL] 26 (0, 0)) (by (with_reducible repeat (first | exact BO.out | refine blk_drewN ?_ _ | refine blk_drew ?_ | refine blk_alloc ?_ _))) hg (Kd.R_ne HL.out BO.out (by decide))); have n_HB1 := Aside0.mk hb; have n_HL := Aside0.mk ho; clear p0 p1 p2 p3 o0 o1 o2 o3 x0 x1 z0 z1 z3 ho hb hg hat HR; clear B4 B8 BO HB1 HL; have B4 := n_B4; have B8 := n_B8; have BO := n_BO; have HB1 := n_HB1; have HL := n_HL; clear n_B4 n_B8 n_BO n_HB1 n_HL; obtain ⟨Al, cl, el⟩ := Kd.R_slice HL.out; subst el; have o3 := blk_cell BO.out 3; have z3 := blk_frozen BO.out 3))
     go_roundw
     case rel => exact ⟨k + 1, by omega, by go_num, _, ⟨blk_far B4.out (by simp; omega) _⟩, ⟨blk_far B8.out (by simp; omega) _⟩, ⟨below_set HB1.out (by simp)⟩, ⟨blk_put (cs := #[.slice A0 lots.length c0, .slice A1 samples.length c1, .int .i64 spread, vL]) BO.out 3 _ rfl⟩, ⟨Kd.R_mono (Kd.R_far (p := ⟨w1.heap.size, 3, none⟩) (Kd.R_types HL.out BO.out (by decide)) (fun _ hk => hk.2) _) (fun _ _ => trivial)⟩⟩
     case measure => simp [intOf]; omega
  ·have : k = labs.length := by omega
   subst this
   obtain ⟨Ao, co, eo⟩ := Kd.R_slice HL.out
   subst eo
   have y0 := blk_cell B8.out 0
   have y1 := blk_cell B8.out 1
   have y2 := blk_cell B8.out 2
   have y3 := blk_cell B8.out 3
   have z0 := blk_frozen B8.out 0
   have z1 := blk_frozen B8.out 1
   have z2 := blk_frozen B8.out 2
   have z3 := blk_frozen B8.out 3
   go_wp2
   refine bodyPost_ret (results_single rfl (.cell (W.heap.size + 1) 26 _ (0, 0) _ rfl (put4 B8.out _ _ _ _) rfl rfl rfl .nil)) rfl ?_
   refine ⟨Ao, co, ?_, ?_, ?_, ?_⟩
   ·rw [readF_length]
   ·exact (Kd.R_reads' (r4 HL.out (by omega) _ _ _ _)).2.2
   ·rw [readF_length]
    have := (Kd.R_reads' HL.out).2.1
    rwa [readF_length] at this
   ·exact below_set (below_set (below_set (below_set (below_step HB.out HB1.out) (by simp)) (by simp)) (by simp)) (by simp)
end Go.Proofs.Ytcpbhklaffgokaa.Q
namespace Go.Proofs.Ytcpbhklaffgokaa.Q
open Go.RowKit Go.Proofs.YtcpbhklaffgokaaW.PrintWords Go.Proofs.YtcpbhklaffgokaaW.PrintLast Go.Proofs.YtcpbhklaffgokaaW.PrintMore
set_option linter.unusedVariables false
set_option linter.unusedSimpArgs false
section
variable {lots : List S46} {samples : List Int} {spread : Int} {labs : List S75}
end
end Go.Proofs.Ytcpbhklaffgokaa.Q
namespace Go.Proofs.Ytcpbhklaffgokaa.Q
open Go.RowKit Go.Proofs.YtcpbhklaffgokaaW.PrintWords Go.Proofs.YtcpbhklaffgokaaW.PrintLast Go.Proofs.YtcpbhklaffgokaaW.PrintMore
set_option linter.unusedVariables false
set_option linter.unusedSimpArgs false
section
variable (lots : List S44) (samples : List Int) (spread : Int) (labs : List S62)
end
end Go.Proofs.Ytcpbhklaffgokaa.Q
namespace Go.Proofs.Ytcpbhklaffgokaa.Q
open Go.RowKit Go.Proofs.YtcpbhklaffgokaaW.PrintWords Go.Proofs.YtcpbhklaffgokaaW.PrintLast Go.Proofs.YtcpbhklaffgokaaW.PrintMore
attribute [local go_sem] max2_int min2_int max_two min_two max_three min_three max_four min_four
set_option linter.unusedVariables false
set_option linter.unusedSimpArgs false
end Go.Proofs.Ytcpbhklaffgokaa.Q
namespace Go.Proofs.Ytcpbhklaffgokaa.Q
open Go.RowKit Go.Proofs.YtcpbhklaffgokaaW.PrintWords Go.Proofs.YtcpbhklaffgokaaW.PrintLast Go.Proofs.YtcpbhklaffgokaaW.PrintMore
set_option linter.unusedVariables false
set_option linter.unusedSimpArgs false
end Go.Proofs.Ytcpbhklaffgokaa.Q
namespace Go.Proofs.Ytcpbhklaffgokaa.Q
open Go.RowKit Go.Proofs.YtcpbhklaffgokaaW.PrintWords Go.Proofs.YtcpbhklaffgokaaW.PrintLast Go.Proofs.YtcpbhklaffgokaaW.PrintMore
set_option linter.unusedVariables false
set_option linter.unusedSimpArgs false
section
variable {lots : List S44} {samples : List Int} {spread : Int} {labs : List S62} {words : List Int} {bits shift : Int}
theorem readF_getD (k : Nat) (hk : k < labs.length) : (readF lots samples spread labs words bits shift labs.length).getD k z62 = ⟨(rd_T62 labs (k : Int)).f0, readRow lots samples spread labs words bits shift k samples.length⟩ := by
 unfold readF
 rw [List.getD_eq_getElem?_getD, List.getElem?_map, List.getElem?_range hk]
 rfl
theorem readRow_getD (k i n : Nat) (hi : i < n) : (readRow lots samples spread labs words bits shift k n).getD i 0 = readN lots samples spread labs words bits shift k i := by
 unfold readRow
 rw [List.getD_eq_getElem?_getD, List.getElem?_map, List.getElem?_range hi]
 rfl
theorem readN_bd (k i : Nat) : -1 ≤ readN lots samples spread labs words bits shift k i ∧ readN lots samples spread labs words bits shift k i ≤ 1000 := by
 unfold readN
 split <;> omega
theorem readN_eq (k i : Nat) (h : readN lots samples spread labs words bits shift k i ≠ -1) : readN lots samples spread labs words bits shift k i = readM lots samples spread labs words bits shift k i := by
 unfold readN at h ⊢
 split at h
 ·exact absurd rfl h
 ·rename_i hc
  rw [if_neg hc]
theorem lab_ok (hok : RoundOk (lots.map m46) samples spread (labs.map m75)) (k : Nat) (hk : k < labs.length) : LabOk samples.length (m75 (rd_T62 labs (k : Int))) :=
 hok.labs _ (List.mem_map_of_mem (mem_drop0 (rd62_drop labs k hk)))
theorem read_ok (hok : RoundOk (lots.map m46) samples spread (labs.map m75)) : RoundOk (lots.map m46) samples spread ((readF lots samples spread labs words bits shift labs.length).map m75) := by
 have hk := lab_ok hok
 obtain ⟨l0, l4, s8, b6, hlot, hsmp, sp0, sp1, hlab⟩ := hok
 refine ⟨l0, l4, s8, by rw [List.length_map, readF_length]; rwa [List.length_map] at b6, hlot, hsmp, sp0, sp1, fun x hx => ?_⟩
 obtain ⟨y, hy, rfl⟩ := List.mem_map.1 hx
 unfold readF at hy
 obtain ⟨k, hk', rfl⟩ := List.mem_map.1 hy
 obtain ⟨a, b, c, d⟩ := hk k (List.mem_range.1 hk')
 refine ⟨a, b, readRow_length _ _ _ _ _ _ _ _ _, fun n hn => ?_⟩
 have hn' : n ∈ readRow lots samples spread labs words bits shift k samples.length := hn
 unfold readRow at hn'
 obtain ⟨i, _, rfl⟩ := List.mem_map.1 hn'
 exact readN_bd k i
theorem read_thin (hok : RoundOk (lots.map m46) samples spread (labs.map m75)) : ThinR lots samples (readF lots samples spread labs words bits shift labs.length) := by
 obtain ⟨l0, l4, s8, b6, hlot, hsmp, sp0, sp1, hlab⟩ := hok
 rw [List.length_map] at l4 b6
 refine ⟨by omega, by omega, by rw [readF_length]; omega, fun x hx => ?_⟩
 unfold readF at hx
 obtain ⟨k, _, rfl⟩ := List.mem_map.1 hx
 show (readRow lots samples spread labs words bits shift k samples.length).length ≤ 10
 rw [readRow_length]
 omega
theorem truth_samp (hok : RoundOk (lots.map m46) samples spread (labs.map m75)) (hw : WordsOk words) (o : Nat → Bool) (lab d : Int) (i : Nat) (hi : i < samples.length)
  (H : ∀ j, j < labs.length → o j = false → ((j : Int) = lab → bitB bits (j : Int) = true ∧ d = shift) ∧ ((j : Int) ≠ lab → bitB bits (j : Int) = false)) :
  inR (trueV lots samples spread words i) (sampR ((readF lots samples spread labs words bits shift labs.length).map m75) o lab d (i : Int)) := by
 have hb := trueV_bd hok hw i hi
 rw [sampR_iff]
 refine ⟨inR_far _ (by omega) (by omega), fun j hj ho hn => ?_⟩
 rw [List.length_map, readF_length] at hj
 rw [getD75, readF_getD j hj] at hn ⊢
 obtain ⟨t0, t1, -, -⟩ := lab_ok hok j hj
 have t0 : 0 ≤ (rd_T62 labs (j : Int)).f0 := t0
 have e : rdL (m75 ⟨(rd_T62 labs (j : Int)).f0, readRow lots samples spread labs words bits shift j samples.length⟩) (i : Int) = readN lots samples spread labs words bits shift j i := by
  unfold rdL
  rw [rd_eq]
  exact readRow_getD j i _ hi
 obtain ⟨h1, h2⟩ := H j hj ho
 unfold rangeOf inR
 rw [e] at hn ⊢
 have em := readN_eq j i hn
 rw [em]
 have hwd := wordF_bd hw (5 * (j : Int) + (i : Int)) (by omega)
 have m1 := Int.emod_nonneg (wordF words (5 * (j : Int) + (i : Int))) (show 2 * (rd_T62 labs (j : Int)).f0 + 1 ≠ 0 by omega)
 have m2 := Int.emod_lt_of_pos (wordF words (5 * (j : Int) + (i : Int))) (show 0 < 2 * (rd_T62 labs (j : Int)).f0 + 1 by omega)
 have et : (m75 ⟨(rd_T62 labs (j : Int)).f0, readRow lots samples spread labs words bits shift j samples.length⟩ : S75).f0 = (rd_T62 labs (j : Int)).f0 := rfl
 rw [et]
 unfold readM
 by_cases hl : (j : Int) = lab
 ·obtain ⟨b1, b2⟩ := h1 hl
  rw [if_pos b1, if_pos hl]
  simp only
  omega
 ·rw [if_neg (show ¬ bitB bits (j : Int) = true by rw [h2 hl]; decide), if_neg hl]
  simp only
  omega
theorem lotW_inR (hok : RoundOk (lots.map m46) samples spread (labs.map m75)) (hw : WordsOk words) (L : Nat) (hL : L < lots.length) : inR (lotW lots words (L : Int)) ((lots.map m46).getD L z46) := by
 rw [getD46 lots L hL]
 exact lotW_in hok hw L hL
theorem truth_fits (hok : RoundOk (lots.map m46) samples spread (labs.map m75)) (hw : WordsOk words) (o : Nat → Bool) (lab d : Int) (L : Nat)
  (H : ∀ j, j < labs.length → o j = false → ((j : Int) = lab → bitB bits (j : Int) = true ∧ d = shift) ∧ ((j : Int) ≠ lab → bitB bits (j : Int) = false)) :
  fitsP ((readF lots samples spread labs words bits shift labs.length).map m75) samples spread o lab d L (lotW lots words (L : Int)) := by
 intro i hi e
 refine ⟨trueV lots samples spread words i, truth_samp hok hw o lab d i hi H, ?_⟩
 have h := trueV_near hok hw i hi
 obtain ⟨s0, -⟩ := lot_at hok i hi
 rw [show samples.getD i 0 = (L : Int) by omega] at h
 exact h
theorem truth_can (hok : RoundOk (lots.map m46) samples spread (labs.map m75)) (hw : WordsOk words) (o : Nat → Bool) (lab d : Int)
  (H : ∀ j, j < labs.length → o j = false → ((j : Int) = lab → bitB bits (j : Int) = true ∧ d = shift) ∧ ((j : Int) ≠ lab → bitB bits (j : Int) = false)) :
  (spansF (lots.map m46) samples spread ((readF lots samples spread labs words bits shift labs.length).map m75) o lab d).2 = true := by
 rw [can_iff (read_ok hok)]
 intro L hL
 rw [List.length_map] at hL
 exact ⟨lotW lots words (L : Int), lotW_inR hok hw L hL, truth_fits hok hw o lab d L H⟩
theorem truth_span (hok : RoundOk (lots.map m46) samples spread (labs.map m75)) (hw : WordsOk words) (o : Nat → Bool)
  (H : ∀ j, j < labs.length → o j = false → bitB bits (j : Int) = false) (i : Nat) (hi : i < samples.length) :
  inR (trueV lots samples spread words i) ((spansF (lots.map m46) samples spread ((readF lots samples spread labs words bits shift labs.length).map m75) o (-1) 0).1.getD i z46) := by
 have H' : ∀ j, j < labs.length → o j = false → ((j : Int) = -1 → bitB bits (j : Int) = true ∧ (0 : Int) = shift) ∧ ((j : Int) ≠ -1 → bitB bits (j : Int) = false) := fun j hj ho => ⟨fun h => by omega, fun _ => H j hj ho⟩
 rw [spans_iff (read_ok hok) o (-1) 0 (truth_can hok hw o (-1) 0 H') i hi]
 obtain ⟨s0, s1, -⟩ := lot_at hok i hi
 refine ⟨truth_samp hok hw o _ _ i hi H', lotW lots words (samples.getD i 0), ?_, ?_, ?_⟩
 ·have := lotW_inR hok hw (samples.getD i 0).toNat (by omega)
  rwa [Int.toNat_of_nonneg s0] at this
 ·have := truth_fits hok hw o (-1) 0 (samples.getD i 0).toNat H'
  rwa [Int.toNat_of_nonneg s0] at this
 ·have := trueV_near hok hw i hi
  omega
end
theorem fromF_all {can : List Int → Bool} {n : Nat} : ∀ (t l : List Int) (next : Nat), t.Pairwise (· < ·) → (∀ x ∈ t, (next : Int) ≤ x ∧ x < n) → can (l ++ t) = true → l ++ t ∈ fromF can n t.length l next := by
 intro t
 induction t with
 | nil =>
  intro l next _ _ hc
  rw [List.append_nil] at hc ⊢
  simp [fromF, hc]
 | cons x t ih =>
  intro l next hp hb hc
  obtain ⟨b0, b1⟩ := hb x List.mem_cons_self
  obtain ⟨hx, ht⟩ := List.pairwise_cons.1 hp
  rw [List.length_cons]
  simp only [fromF, List.mem_flatMap]
  refine ⟨x.toNat, by rw [List.mem_range'_1]; omega, ?_⟩
  have e : ((x.toNat : Nat) : Int) = x := by omega
  rw [e]
  have := ih (l ++ [x]) (x.toNat + 1) ht (fun y hy => by have := hx y hy; have := hb y (List.mem_cons_of_mem _ hy); omega) (by rwa [List.append_assoc, List.singleton_append])
  rwa [List.append_assoc, List.singleton_append] at this
theorem few_le {can : List Int → Bool} {n : Nat} (y : List Int) (hp : y.Pairwise (· < ·)) (hb : ∀ x ∈ y, (0 : Int) ≤ x ∧ x < n) (hn : y.length ≤ n) (hc : can y = true) :
  (∀ x ∈ fewK can n (n + 1), x.length ≤ y.length) ∧ ((∀ x ∈ fewK can n (n + 1), x.length = y.length) → y ∈ fewK can n (n + 1)) := by
 have hm : y ∈ fromF can n y.length [] 0 := by
  have := fromF_all (can := can) (n := n) y [] 0 hp (fun x hx => by have := hb x hx; omega) (by simpa using hc)
  simpa using this
 by_cases h0 : (fewK can n y.length).length = 0
 ·have e : fewK can n (y.length + 1) = fromF can n y.length [] 0 := by simp only [fewK]; rw [if_pos h0]
  have hne : (fewK can n (y.length + 1)).length ≠ 0 := by
   rw [e]
   intro h
   rw [List.eq_nil_of_length_eq_zero h] at hm
   cases hm
  rw [fewK_stays can n (y.length + 1) hne (n + 1) (by omega), e]
  exact ⟨fun x hx => by have := fromF_mem hx; simp at this; omega, fun _ => hm⟩
 ·rw [fewK_stays can n y.length h0 (n + 1) (by omega)]
  refine ⟨fun x hx => Nat.le_of_lt (fewK_mem hx), fun h => ?_⟩
  cases hx : fewK can n y.length with
  | nil => rw [hx] at h0; exact absurd rfl h0
  | cons x xs =>
   have hm' : x ∈ fewK can n y.length := by rw [hx]; exact List.mem_cons_self
   have h1 := h x hm'
   have h2 := fewK_mem hm'
   omega
theorem fewK_same (can : List Int → Bool) (n : Nat) : ∀ k, ∀ x ∈ fewK can n k, ∀ z ∈ fewK can n k, x.length = z.length := by
 intro k
 induction k with
 | zero => intro x hx; cases hx
 | succ k ih =>
  intro x hx z hz
  simp only [fewK] at hx hz
  split at hx
  ·rename_i h
   rw [if_pos h] at hz
   rw [fromF_mem hx, fromF_mem hz]
  ·rename_i h
   rw [if_neg h] at hz
   exact ih x hx z hz
theorem least_le {lots : List S46} {samples : List Int} {spread : Int} {labs : List S75} (hok : RoundOk lots samples spread labs) (y : List Int) (hp : y.Pairwise (· < ·)) (hb : ∀ x ∈ y, (0 : Int) ≤ x ∧ x < labs.length) (hn : y.length ≤ labs.length) (hc : canF lots samples spread labs (offOf y) = true) :
  (leastF lots samples spread labs).2 = 0 ∧ (leastF lots samples spread labs).1.length ≤ y.length ∧ ((convF lots samples spread labs).2 = 0 ∨ (convF lots samples spread labs).2 = 7) ∧ ((leastF lots samples spread labs).1.length = y.length → ∀ x ∈ (convF lots samples spread labs).1, x ∈ y) := by
 have hk := check_of_ok hok
 have h0 := fewest_some hk
 obtain ⟨h1, h2⟩ := few_le (can := fun l => canF lots samples spread labs (offOf l)) y hp hb hn hc
 have el : leastF lots samples spread labs = ((fewestF lots samples spread labs).getD 0 [], 0) := by unfold leastF; rw [if_pos hk]
 have ec : convF lots samples spread labs = if convL (fewestF lots samples spread labs) = [] then ([], 7) else (convL (fewestF lots samples spread labs), 0) := by unfold convF; rw [if_pos hk]
 have hall := fewK_same (fun l => canF lots samples spread labs (offOf l)) labs.length (labs.length + 1)
 rw [el, ec]
 change ∀ x ∈ fewestF lots samples spread labs, _ at h1
 change (∀ x ∈ fewestF lots samples spread labs, _) → y ∈ fewestF lots samples spread labs at h2
 change ∀ x ∈ fewestF lots samples spread labs, ∀ z ∈ fewestF lots samples spread labs, _ at hall
 have hm : (fewestF lots samples spread labs).getD 0 [] ∈ fewestF lots samples spread labs := by
  rw [List.getD_eq_getElem?_getD, List.getElem?_eq_getElem h0]
  exact List.getElem_mem _
 refine ⟨rfl, h1 _ hm, ?_, fun he x hx => ?_⟩
 ·split
  ·exact .inr rfl
  ·exact .inl rfl
 ·have hx' : x ∈ convL (fewestF lots samples spread labs) := by
   split at hx
   ·cases hx
   ·exact hx
  unfold convL at hx'
  have hp := (List.mem_filter.1 hx').2
  unfold convP at hp
  rw [List.all_eq_true] at hp
  have hy := h2 (fun z hz => by rw [hall z hz _ hm]; exact he)
  have := hp y hy
  simpa using this
end Go.Proofs.Ytcpbhklaffgokaa.Q
namespace Go.Proofs.Ytcpbhklaffgokaa.Q
open Go.RowKit Go.Proofs.YtcpbhklaffgokaaW.PrintWords Go.Proofs.YtcpbhklaffgokaaW.PrintLast Go.Proofs.YtcpbhklaffgokaaW.PrintMore
set_option linter.unusedVariables false
set_option linter.unusedSimpArgs false
theorem read_at {W : World} {v : Value} {A0 : Option Addr} {c0 : Nat} {lots : List S44} {A1 : Option Addr} {c1 : Nat} {samples : List Int} {spread : Int} {A3 : Option Addr} {c3 : Nat} {labs : List S62} (h : In26 W v A0 c0 lots A1 c1 samples spread A3 c3 labs) (hok : RoundOk (lots.map m46) samples spread (labs.map m75)) (Aw : Option Addr) (cw : Nat) (words : List Int) (hC : (Kd.int .u16).C W Aw words.length words) (hc : words.length ≤ cw) (hw : WordsOk words) (bits shift : Int) (hs0 : -40000 ≤ shift) (hs1 : shift ≤ 40000) (hb0 : 0 ≤ bits) (hb1 : bits < 256) :
  Calls Try.prog 37 #[.agg #[.slice A0 lots.length c0, .slice A1 samples.length c1, .int .i64 spread, .slice A3 labs.length c3], .slice Aw words.length cw, .int .u8 bits, .int .i64 shift] W (fun e w' => ∃ A c, e = .returned (.agg #[.slice A0 lots.length c0, .slice A1 samples.length c1, .int .i64 spread, .slice A (readF lots samples spread labs words bits shift labs.length).length c]) ∧ In26 w' (.agg #[.slice A0 lots.length c0, .slice A1 samples.length c1, .int .i64 spread, .slice A (readF lots samples spread labs words bits shift labs.length).length c]) A0 c0 lots A1 c1 samples spread A c (readF lots samples spread labs words bits shift labs.length) ∧ Below W.heap.size W w') := by
 refine (read_any h hok Aw cw words hC hc hw bits shift hs0 hs1 hb0 hb1).mono ?_
 rintro e w' ⟨A, c, rfl, hC', hc', hb⟩
 have ht := read_thin (words := words) (bits := bits) (shift := shift) hok
 exact ⟨A, c, rfl, ⟨rfl, Kd.C_below h.r0 hb, h.h0, Kd.C_below h.r1 hb, h.h1, hC', hc', h.a, h.b, by have := ht.c; omega, fun x hx => by have := ht.d x hx; omega⟩, hb⟩
end Go.Proofs.Ytcpbhklaffgokaa.Q
namespace Go.Proofs.Ytcpbhklaffgokaa.Q
open Go.RowKit Go.Proofs.YtcpbhklaffgokaaW.PrintWords Go.Proofs.YtcpbhklaffgokaaW.PrintLast Go.Proofs.YtcpbhklaffgokaaW.PrintMore
set_option linter.unusedVariables false
set_option linter.unusedSimpArgs false
theorem inL_mk {W : World} {A : Option Addr} {c : Nat} {l : List Int} (hc : l.length ≤ c) (hC : (Kd.int .i64).C W A l.length l) : InL W (.slice A l.length c) l := ⟨A, c, rfl, hc, hC⟩
theorem has_at {W : World} (A : Option Addr) (c : Nat) (l : List Int) (x : Int) (hC : (Kd.int .i64).C W A l.length l) (hc : l.length ≤ c) (hl : l.length ≤ 9223372036854775807) : Calls Try.prog 39 #[.slice A l.length c, .int .i64 x] W fun e w' => e = .returned (.bool (l.contains x)) ∧ Below W.heap.size W w' := by
 obtain ⟨k, hk⟩ := Ev_rounds (Has_ev l x hl)
 refine (tensileref08_Has.calls k A c l x _ W hC hc hk).mono ?_
 rintro e w' ⟨rfl, ⟨m, rfl⟩⟩
 exact ⟨rfl, pw_below_drewN (Below.refl _ _) m⟩
set_option maxHeartbeats 4000000 in
set_option maxRecDepth 100000 in
theorem truth_no {W : World} {v : Value} {A0 : Option Addr} {c0 : Nat} {lots : List S44} {A1 : Option Addr} {c1 : Nat} {samples : List Int} {spread : Int} {A3 : Option Addr} {c3 : Nat} {labs : List S62} (h : In26 W v A0 c0 lots A1 c1 samples spread A3 c3 labs) (Aw : Option Addr) (cw : Nat) (words : List Int) (bits shift : Int) (hr : Ev (fun k => tensilelaw08_ready.f k lots samples spread labs) false) :
  Calls Try.prog 15 #[.agg #[.slice A0 lots.length c0, .slice A1 samples.length c1, .int .i64 spread, .slice A3 labs.length c3], .slice Aw words.length cw, .int .u8 bits, .int .i16 shift] W (RetB W (.bool true)) := by
 have HI := Aside0.mk h
 have HB := Aside0.mk (below_alloc (Below.refl _ W) (.cells #[.slice A0 lots.length c0, .slice A1 samples.length c1, .int .i64 spread, .slice A3 labs.length c3] 26))
 have B3 := Aside0.mk (blk_new W (.cells #[.slice A0 lots.length c0, .slice A1 samples.length c1, .int .i64 spread, .slice A3 labs.length c3] 26))
 obtain ⟨p0, p1, p2, p3⟩ := cells4 B3.out
 have lt_B3 := blk_lt B3.out
 have HRd := Aside0.mk hr
 clear h hr
 go_enter Try.func15, Try.ntmps15
 go_wp2_with (first | (go_at_call 35; (with_reducible refine (ready_at (HI.out.below (by repeat (first | (with_reducible exact HB.out) | apply below_alloc | apply pw_below_drewN | apply below_drew1 | refine below_set ?_ (by omega)))) HRd.out).mono ?_); rintro e w1 ⟨rfl, hb⟩; replace HB := Aside0.mk (below_step (by repeat (first | (with_reducible exact HB.out) | apply below_alloc | apply pw_below_drewN | apply below_drew1 | refine below_set ?_ (by omega))) hb); replace B3 := Aside0.mk (blk_below (g := W.heap.size) (o := .cells #[.slice A0 lots.length c0, .slice A1 samples.length c1, .int .i64 spread, .slice A3 labs.length c3] 26 (0, 0)) (by (with_reducible repeat (first | exact B3.out | refine blk_drewN ?_ _ | refine blk_drew ?_ | refine blk_alloc ?_ _))) hb); clear hb; (try clear p0 p1 p2 p3); (try clear lt_B3); have lt_B3 := blk_lt B3.out; obtain ⟨p0, p1, p2, p3⟩ := cells4 B3.out) | (go_at_call 18; (with_reducible refine (wakes_any _).mono ?_); rintro e w9 ⟨rfl, hb⟩; replace HB := Aside0.mk (below_step (by repeat (first | (with_reducible exact HB.out) | apply below_alloc | apply pw_below_drewN | apply below_drew1 | refine below_set ?_ (by omega))) hb); replace B3 := Aside0.mk (blk_below (g := W.heap.size) (o := .cells #[.slice A0 lots.length c0, .slice A1 samples.length c1, .int .i64 spread, .slice A3 labs.length c3] 26 (0, 0)) (by (with_reducible repeat (first | exact B3.out | refine blk_drewN ?_ _ | refine blk_drew ?_ | refine blk_alloc ?_ _))) hb); clear hb; (try clear p0 p1 p2 p3); (try clear lt_B3); have lt_B3 := blk_lt B3.out; obtain ⟨p0, p1, p2, p3⟩ := cells4 B3.out))
 go_ret
 exact ⟨rfl, HB.out⟩
def truth_a.T4 : Bool × List (List Nat × List Nat) := (true, [([], []), ([], []), ([0, 1], [0, 1]), ([], []), ([], []), ([3, 4, 2], [3, 4]), ([2, 5, 0, 1, 2], [2]), ([5, 6, 0, 1, 2, 3, 4, 5, 6], [5])])
def truth_a.B4 : List Nat := [0, 0, 3, 0, 0, 31, 63, 127]
theorem truth_a.tab4 : rtab .any (opsOf Try.f15 4) = truth_a.T4 := by kernel_rfl
theorem truth_a.bits4 : waitsOk truth_a.T4.2 truth_a.B4 = true := by kernel_rfl
def truth_a.T14 : Bool × List (List Nat × List Nat) := (true, [([], []), ([], []), ([0, 1], [0, 1]), ([2], [2]), ([], []), ([], []), ([4, 5], [4, 5]), ([6], [6]), ([7], [7]), ([3, 8], [3, 8]), ([9], [9]), ([10], [10]), ([10], [10]), ([11, 12, 10], [10, 11, 12]), ([13, 10], [10, 13]), ([10], [10]), ([10], [10]), ([15, 16, 10], [10, 15, 16]), ([17, 10], [10, 17]), ([18, 10], [10, 18]), ([14, 19, 10], [10, 14, 19]), ([10, 20], [10, 20])])
def truth_a.B14 : List Nat := [0, 0, 3, 7, 0, 0, 48, 112, 240, 511, 1023, 2047, 2047, 8191, 16383, 2047, 2047, 100351, 231423, 493567, 1048575, 2097151]
theorem truth_a.tab14 : rtab .any (opsOf Try.f15 14) = truth_a.T14 := by kernel_rfl
theorem truth_a.bits14 : waitsOk truth_a.T14.2 truth_a.B14 = true := by kernel_rfl
set_option maxHeartbeats 4000000 in
set_option maxRecDepth 100000 in
theorem truth_a {W : World} {v : Value} {A0 : Option Addr} {c0 : Nat} {lots : List S44} {A1 : Option Addr} {c1 : Nat} {samples : List Int} {spread : Int} {A3 : Option Addr} {c3 : Nat} {labs : List S62} (h : In26 W v A0 c0 lots A1 c1 samples spread A3 c3 labs) (Aw : Option Addr) (cw : Nat) (words : List Int) (hC : (Kd.int .u16).C W Aw words.length words) (hcw : words.length ≤ cw) (hw : WordsOk words) (bits shift : Int) (hb0 : 0 ≤ bits) (hb1 : bits < 256) (hs0 : -40000 ≤ shift) (hs1 : shift ≤ 40000) (hr : Ev (fun k => tensilelaw08_ready.f k lots samples spread labs) true) (hth : ThinR lots samples labs) (hok : RoundOk (lots.map m46) samples spread (labs.map m75)) (off vals : List Int) (hoff : chosenF labs.length bits = off) (hvals : trueF lots samples spread words = vals) (hvl : vals.length = samples.length) (hol : off.length ≤ labs.length)
  (he : explainsF (lots.map m46) samples spread ((readF lots samples spread labs words bits shift labs.length).map m75) off = (true, 0)) (sp : List S46) (hsp : spansR (lots.map m46) samples spread ((readF lots samples spread labs words bits shift labs.length).map m75) off = (sp, 0)) (hsl : sp.length = samples.length) (hin : ∀ i : Int, 0 ≤ i → i < samples.length → (rd_T46 sp i).f0 ≤ rd vals i ∧ rd vals i ≤ (rd_T46 sp i).f1) (ll cl2 : List Int) (hle : leastF (lots.map m46) samples spread ((readF lots samples spread labs words bits shift labs.length).map m75) = (ll, 0)) (hll : ll.length ≤ off.length) (hco : convF (lots.map m46) samples spread ((readF lots samples spread labs words bits shift labs.length).map m75) = (cl2, 0)) (hcl : cl2.length ≤ labs.length) (hcm : ll.length = off.length → ∀ i : Int, 0 ≤ i → i < cl2.length → off.contains (rd cl2 i) = true) :
  Calls Try.prog 15 #[.agg #[.slice A0 lots.length c0, .slice A1 samples.length c1, .int .i64 spread, .slice A3 labs.length c3], .slice Aw words.length cw, .int .u8 bits, .int .i16 shift] W (RetB W (.bool true)) := by
 have HI := Aside0.mk h
 have HB := Aside0.mk (below_alloc (Below.refl _ W) (.cells #[.slice A0 lots.length c0, .slice A1 samples.length c1, .int .i64 spread, .slice A3 labs.length c3] 26))
 have B3 := Aside0.mk (blk_new W (.cells #[.slice A0 lots.length c0, .slice A1 samples.length c1, .int .i64 spread, .slice A3 labs.length c3] 26))
 obtain ⟨p0, p1, p2, p3⟩ := cells4 B3.out
 have lt_B3 := blk_lt B3.out
 have HRd := Aside0.mk hr
 have HE := Aside0.mk he
 have HS := Aside0.mk hsp
 have HLe := Aside0.mk hle
 have HCo := Aside0.mk hco
 have HIn := Aside0.mk hin
 have HCm := Aside0.mk hcm
 have HW := Aside0.mk hw
 have HOk := Aside0.mk hok
 have HThX := Aside0.mk (read_thin (words := words) (bits := bits) (shift := shift) hok)
 have h6 : labs.length ≤ 6 := by have := hok.b6; rwa [List.length_map] at this
 have h8 := hok.s8
 have e2 : IntKind.i64.wrap shift = shift := IntWalk.i64_in _ (by omega)
 have HRead := Aside0.mk (fun W' (h' : In26 W' v A0 c0 lots A1 c1 samples spread A3 c3 labs) (hC' : (Kd.int .u16).C W' Aw words.length words) => read_at h' hok Aw cw words hC' hcw hw bits shift (by omega) (by omega) hb0 hb1)
 have HCw := Aside0.mk hC
 have hvl2 := Nat.le_of_eq hvl
 have hvl3 := Nat.le_of_eq hvl.symm
 have hsl2 := Nat.le_of_eq hsl
 have hsl3 := Nat.le_of_eq hsl.symm
 clear hvl hsl
 generalize readF lots samples spread labs words bits shift labs.length = L at HRead HS HThX HE HLe HCo
 have HOffe := Aside0.mk hoff
 have HVale := Aside0.mk hvals
 clear h hr hth hok hC he hsp hle hco hin hcm hs0 hs1 hoff hvals hw
 go_enter Try.func15, Try.ntmps15
 go_wp2_with (first | (go_at_call 35; (with_reducible refine (ready_at (HI.out.below (by repeat (first | (with_reducible exact HB.out) | apply below_alloc | apply pw_below_drewN | apply below_drew1 | refine below_set ?_ (by omega)))) HRd.out).mono ?_); rintro e w1 ⟨rfl, hb⟩; replace HB := Aside0.mk (below_step (by repeat (first | (with_reducible exact HB.out) | apply below_alloc | apply pw_below_drewN | apply below_drew1 | refine below_set ?_ (by omega))) hb); replace B3 := Aside0.mk (blk_below (g := W.heap.size) (o := .cells #[.slice A0 lots.length c0, .slice A1 samples.length c1, .int .i64 spread, .slice A3 labs.length c3] 26 (0, 0)) (by (with_reducible repeat (first | exact B3.out | refine blk_drewN ?_ _ | refine blk_drew ?_ | refine blk_alloc ?_ _))) hb); clear hb; (try clear p0 p1 p2 p3); (try clear lt_B3); have lt_B3 := blk_lt B3.out; obtain ⟨p0, p1, p2, p3⟩ := cells4 B3.out) | (go_at_call 37; refine Aside0.out ?_))
 refine ⟨?_⟩
 refine (HRead.out _ (HI.out.below (by repeat (first | (with_reducible exact HB.out) | apply below_alloc | apply pw_below_drewN | apply below_drew1 | refine below_set ?_ (by omega)))) (Kd.C_below HCw.out (by repeat (first | (with_reducible exact HB.out) | apply below_alloc | apply pw_below_drewN | apply below_drew1 | refine below_set ?_ (by omega))))).mono ?_
 rintro e w2 ⟨Ar, cr, rfl, hIn, hb⟩
 replace HCw := Aside0.mk (Kd.C_below HCw.out (below_step (by repeat (first | (with_reducible exact HB.out) | apply below_alloc | apply pw_below_drewN | apply below_drew1 | refine below_set ?_ (by omega))) hb))
 replace HB := Aside0.mk (below_step (by repeat (first | (with_reducible exact HB.out) | apply below_alloc | apply pw_below_drewN | apply below_drew1 | refine below_set ?_ (by omega))) hb)
 replace B3 := Aside0.mk (blk_below (g := W.heap.size) (o := .cells #[.slice A0 lots.length c0, .slice A1 samples.length c1, .int .i64 spread, .slice A3 labs.length c3] 26 (0, 0)) (by (with_reducible repeat (first | exact B3.out | refine blk_drewN ?_ _ | refine blk_drew ?_ | refine blk_alloc ?_ _))) hb)
 clear hb
 (try clear p0 p1 p2 p3)
 (try clear lt_B3)
 have lt_B3 := blk_lt B3.out
 obtain ⟨p0, p1, p2, p3⟩ := cells4 B3.out
 have HX := Aside0.mk (hIn.below (below_alloc (Below.refl _ w2) (.cells #[.slice A0 lots.length c0, .slice A1 samples.length c1, .int .i64 spread, .slice Ar L.length cr] 26)))
 clear hIn HRead
 go_wp2
 have BX := Aside0.mk (blk_new w2 (.cells #[.slice A0 lots.length c0, .slice A1 samples.length c1, .int .i64 spread, .slice Ar L.length cr] 26))
 obtain ⟨x0, x1, x2, x3⟩ := cells4 BX.out
 have lt_BX := blk_lt BX.out
 replace B3 := Aside0.mk (blk_alloc B3.out (.cells #[.slice A0 lots.length c0, .slice A1 samples.length c1, .int .i64 spread, .slice Ar L.length cr] 26))
 replace HB := Aside0.mk (below_alloc HB.out (.cells #[.slice A0 lots.length c0, .slice A1 samples.length c1, .int .i64 spread, .slice Ar L.length cr] 26))
 replace HCw := Aside0.mk (Kd.C_alloc HCw.out (.cells #[.slice A0 lots.length c0, .slice A1 samples.length c1, .int .i64 spread, .slice Ar L.length cr] 26))
 generalize hw3 : w2.alloc (.cells #[.slice A0 lots.length c0, .slice A1 samples.length c1, .int .i64 spread, .slice Ar L.length cr] 26) = w3 at HX BX B3 HB HCw x0 x1 x2 x3 lt_BX ⊢
 clear hw3
 have hOffe := HOffe.out
 have hVale := HVale.out
 refine start_ (n := 8) (S := fun w' => w'.cell? ⟨W.heap.size, 0, none⟩ = some (.slice A0 lots.length c0) ∧ w'.cell? ⟨W.heap.size, 1, none⟩ = some (.slice A1 samples.length c1) ∧ w'.cell? ⟨W.heap.size, 2, none⟩ = some (.int .i64 spread) ∧ w'.cell? ⟨W.heap.size, 3, none⟩ = some (.slice A3 labs.length c3)) (ds := []) #[false, false, false, false, false, false, false, false] (by kernel_rfl) rfl rfl ⟨(blk_cell (blk_drew B3.out) 0).trans rfl, (blk_cell (blk_drew B3.out) 1).trans rfl, (blk_cell (blk_drew B3.out) 2).trans rfl, (blk_cell (blk_drew B3.out) 3).trans rfl⟩ (fun hHeld => ?_)
 refine with_tabW truth_a.tab4 truth_a.bits4 (fun HT_ HW_ => ?_)
 replace B3 := Aside0.mk (blk_drew B3.out)
 replace BX := Aside0.mk (blk_drew BX.out)
 replace HB := Aside0.mk (below_drew1 HB.out)
 replace HX := Aside0.mk (HX.out.below (below_drew1 (Below.refl _ _)))
 replace HCw := Aside0.mk (Kd.C_drew HCw.out)
 clear p0 p1 p2 p3 x0 x1 x2 x3 lt_B3 lt_BX
 generalize w3.drew = ws at B3 BX HB HX HCw hHeld ⊢
 refine pure_ (i := 1) (N := some 33) (v := ?_) (a' := ?_) #[false, true, false, false, false, false, false, false] rfl rfl (any_of HT_.out (by kernel_rfl)) (fun _ _ _ h => h) (Or.inl ⟨by rfl, ?_⟩) ?_ ?_
 rotate_left
 ·intro w'
  go_simp
  with_reducible rfl
 rotate_left
 ·simp only [Act.put, List.setIfInBounds_toArray, List.set_cons_zero, List.set_cons_succ, i64_w, i32_w]
  rfl
 refine pure_ (i := 4) (N := some 36) (v := ?_) (a' := ?_) #[false, true, false, false, true, false, false, false] rfl rfl (any_of HT_.out (by kernel_rfl)) (fun _ _ _ h => h) (Or.inl ⟨by rfl, ?_⟩) ?_ ?_
 rotate_left
 ·intro w'
  go_simp
  with_reducible rfl
 rotate_left
 ·simp only [Act.put, List.setIfInBounds_toArray, List.set_cons_zero, List.set_cons_succ, i64_w, i32_w]
  rfl
 refine take_ (i := 0) (N := some 32) (v := ?_) (a' := ?_) #[true, true, false, false, true, false, false, false] rfl rfl (take_ofW HT_.out HW_.out (by kernel_rfl)) (fun _ _ _ h => h) (Or.inl ⟨by rfl, ?_⟩) hHeld ?_ ?_
 rotate_left
 ·rintro w' ⟨s0, s1, s2, s3⟩
  go_simp
  with_reducible rfl
 rotate_left
 ·simp only [Act.put, List.setIfInBounds_toArray, List.set_cons_zero, List.set_cons_succ, i64_w, i32_w]
  rfl
 refine take_ (i := 3) (N := some 35) (v := ?_) (a' := ?_) #[true, true, false, true, true, false, false, false] rfl rfl (take_ofW HT_.out HW_.out (by kernel_rfl)) (fun _ _ _ h => h) (Or.inl ⟨by rfl, ?_⟩) hHeld ?_ ?_
 rotate_left
 ·rintro w' ⟨s0, s1, s2, s3⟩
  go_simp
  with_reducible rfl
 rotate_left
 ·simp only [Act.put, List.setIfInBounds_toArray, List.set_cons_zero, List.set_cons_succ, i64_w, i32_w]
  rfl
 refine one_ (i := 2) (N := some 34) #[true, true, true, true, true, false, false, false] rfl rfl (one_of HT_.out (by kernel_rfl)) (by decide) (fun K hK => ?_)
 refine goes_ Try.func36 (by kernel_rfl) rfl #[.agg #[.slice A0 lots.length c0, .slice A1 samples.length c1, .int .i64 spread, .slice A3 labs.length c3], .int .u8 bits] (by rfl) rfl rfl (by simp only [List.map_toArray, List.map_cons, List.map_nil]; rfl) ?_
 with_reducible refine (chosen_at (HI.out.below HB.out) h6 bits).mono ?_
 rintro e w20 ⟨_, rfl, hOff, hb⟩
 refine ⟨_, rfl, ?_⟩
 rw [hOffe] at hOff
 obtain ⟨Ao, co, rfl, hco, hOff⟩ := hOff
 replace HB := Aside0.mk (below_step HB.out hb)
 replace B3 := Aside0.mk (blk_below (g := W.heap.size) (o := .cells #[.slice A0 lots.length c0, .slice A1 samples.length c1, .int .i64 spread, .slice A3 labs.length c3] 26 (0, 0)) B3.out hb)
 replace BX := Aside0.mk (blk_below (g := w2.heap.size) (o := .cells #[.slice A0 lots.length c0, .slice A1 samples.length c1, .int .i64 spread, .slice Ar L.length cr] 26 (0, 0)) BX.out hb)
 replace HX := Aside0.mk (HX.out.below hb)
 replace HCw := Aside0.mk (Kd.C_below HCw.out hb)
 (try replace HOff := Aside0.mk (Kd.C_below HOff.out hb))
 have HOff := Aside0.mk hOff
 clear hb hOff
 refine hK.out _ _ ⟨(blk_cell B3.out 0).trans rfl, (blk_cell B3.out 1).trans rfl, (blk_cell B3.out 2).trans rfl, (blk_cell B3.out 3).trans rfl⟩ (fun hHeld => ?_)
 clear hK K
 refine norm_ (a' := ?_) ?_ ?_
 rotate_left
 ·show Act.put _ (some 34) _ = _
  simp only [Act.put, List.setIfInBounds_toArray, List.set_cons_zero, List.set_cons_succ, i64_w, i32_w]
  rfl
 refine one_ (i := 5) (N := some 37) #[true, true, true, true, true, true, false, false] rfl rfl (one_of HT_.out (by kernel_rfl)) (by decide) (fun K hK => ?_)
 refine goes_ Try.func41 (by kernel_rfl) rfl #[.agg #[.slice A0 lots.length c0, .slice A1 samples.length c1, .int .i64 spread, .slice A3 labs.length c3], .slice Aw words.length cw] (by rfl) rfl rfl (by simp only [List.map_toArray, List.map_cons, List.map_nil]; rfl) ?_
 with_reducible refine (true_at (HI.out.below HB.out) HOk.out Aw cw words HCw.out hcw HW.out).mono ?_
 rintro e w21 ⟨_, rfl, hVal, hb⟩
 refine ⟨_, rfl, ?_⟩
 rw [hVale] at hVal
 obtain ⟨aV, cV, rfl, hcV, hVal⟩ := hVal
 replace HB := Aside0.mk (below_step HB.out hb)
 replace B3 := Aside0.mk (blk_below (g := W.heap.size) (o := .cells #[.slice A0 lots.length c0, .slice A1 samples.length c1, .int .i64 spread, .slice A3 labs.length c3] 26 (0, 0)) B3.out hb)
 replace BX := Aside0.mk (blk_below (g := w2.heap.size) (o := .cells #[.slice A0 lots.length c0, .slice A1 samples.length c1, .int .i64 spread, .slice Ar L.length cr] 26 (0, 0)) BX.out hb)
 replace HX := Aside0.mk (HX.out.below hb)
 replace HCw := Aside0.mk (Kd.C_below HCw.out hb)
 (try replace HOff := Aside0.mk (Kd.C_below HOff.out hb))
 have HVal := Aside0.mk hVal
 clear hb hVal
 refine hK.out _ _ ⟨(blk_cell B3.out 0).trans rfl, (blk_cell B3.out 1).trans rfl, (blk_cell B3.out 2).trans rfl, (blk_cell B3.out 3).trans rfl⟩ (fun hHeld => ?_)
 clear hK K
 refine norm_ (a' := ?_) ?_ ?_
 rotate_left
 ·show Act.put _ (some 37) _ = _
  simp only [Act.put, List.setIfInBounds_toArray, List.set_cons_zero, List.set_cons_succ, i64_w, i32_w]
  rfl
 refine pure_ (i := 6) (N := some 10) (v := ?_) (a' := ?_) #[true, true, true, true, true, true, true, false] rfl rfl (any_of HT_.out (by kernel_rfl)) (fun _ _ _ h => h) (Or.inl ⟨by rfl, ?_⟩) ?_ ?_
 rotate_left
 ·intro w'
  go_simp
  with_reducible rfl
 rotate_left
 ·simp only [Act.put, List.setIfInBounds_toArray, List.set_cons_zero, List.set_cons_succ, i64_w, i32_w]
  rfl
 refine pure_ (i := 7) (N := some 11) (v := ?_) (a' := ?_) #[true, true, true, true, true, true, true, true] rfl rfl (any_of HT_.out (by kernel_rfl)) (fun _ _ _ h => h) (Or.inl ⟨by rfl, ?_⟩) ?_ ?_
 rotate_left
 ·intro w'
  go_simp
  with_reducible rfl
 rotate_left
 ·simp only [Act.put, List.setIfInBounds_toArray, List.set_cons_zero, List.set_cons_succ, i64_w, i32_w]
  rfl
 refine done_ (done_of HT_.out (by kernel_rfl)) ?_
 clear hOffe hVale B3
 obtain ⟨x0, x1, x2, x3⟩ := cells4 BX.out
 have lt_BX := blk_lt BX.out
 have f1 : ((sp.length : Int) != (vals.length : Int)) = false := bne_eq_false_iff_eq.2 (by omega)
 have f2 : decide ((off.length : Int) < (ll.length : Int)) = false := decide_eq_false (by omega)
 have hln : off.length < 17592186044416 := by omega
 go_wp2_with (first | (go_at_call 20; (with_reducible refine (round_at (HX.out.below (by repeat (first | (with_reducible exact Below.refl _ _) | apply below_alloc | apply pw_below_drewN | apply below_drew1))) HThX.out).mono ?_); rintro e w4 ⟨u, rfl, hu, hb⟩; replace HB := Aside0.mk (below_step (by repeat (first | (with_reducible exact HB.out) | apply below_alloc | apply pw_below_drewN | apply below_drew1 | refine below_set ?_ (by omega))) hb); replace BX := Aside0.mk (blk_below (g := w2.heap.size) (o := .cells #[.slice A0 lots.length c0, .slice A1 samples.length c1, .int .i64 spread, .slice Ar L.length cr] 26 (0, 0)) (by (with_reducible repeat (first | exact BX.out | refine blk_drewN ?_ _ | refine blk_drew ?_ | refine blk_alloc ?_ _))) hb); replace HX := Aside0.mk (HX.out.below (below_step (by repeat (first | (with_reducible exact Below.refl _ _) | apply below_alloc | apply pw_below_drewN | apply below_drew1)) hb)); (try replace HOff := Aside0.mk (Kd.C_below HOff.out (below_step (by repeat (first | (with_reducible exact Below.refl _ _) | apply below_alloc | apply pw_below_drewN | apply below_drew1)) hb))); (try replace HVal := Aside0.mk (Kd.C_below HVal.out (below_step (by repeat (first | (with_reducible exact Below.refl _ _) | apply below_alloc | apply pw_below_drewN | apply below_drew1)) hb))); (try replace HSp := Aside0.mk (Kd.C_below HSp.out (below_step (by repeat (first | (with_reducible exact Below.refl _ _) | apply below_alloc | apply pw_below_drewN | apply below_drew1)) hb))); (try replace HCv := Aside0.mk (Kd.C_below HCv.out (below_step (by repeat (first | (with_reducible exact Below.refl _ _) | apply below_alloc | apply pw_below_drewN | apply below_drew1)) hb))); (try replace HCw := Aside0.mk (Kd.C_below HCw.out (below_step (by repeat (first | (with_reducible exact Below.refl _ _) | apply below_alloc | apply pw_below_drewN | apply below_drew1)) hb))); (try replace HU := Aside0.mk (HU.out.below (below_step (by repeat (first | (with_reducible exact Below.refl _ _) | apply below_alloc | apply pw_below_drewN | apply below_drew1)) hb))); (try replace HL := Aside0.mk (HL.out.below (below_step (by repeat (first | (with_reducible exact Below.refl _ _) | apply below_alloc | apply pw_below_drewN | apply below_drew1)) hb))); clear hb; have HU := Aside0.mk hu; clear hu; (try clear x0 x1 x2 x3); (try clear lt_BX); have lt_BX := blk_lt BX.out; obtain ⟨x0, x1, x2, x3⟩ := cells4 BX.out) | (go_at_call 22; (with_reducible refine (list_at (inL_mk hco (Kd.C_below HOff.out (by repeat (first | (with_reducible exact Below.refl _ _) | apply below_alloc | apply pw_below_drewN | apply below_drew1)))) hln).mono ?_); rintro e w5 ⟨y, rfl, hy, hb⟩; replace HB := Aside0.mk (below_step (by repeat (first | (with_reducible exact HB.out) | apply below_alloc | apply pw_below_drewN | apply below_drew1 | refine below_set ?_ (by omega))) hb); replace BX := Aside0.mk (blk_below (g := w2.heap.size) (o := .cells #[.slice A0 lots.length c0, .slice A1 samples.length c1, .int .i64 spread, .slice Ar L.length cr] 26 (0, 0)) (by (with_reducible repeat (first | exact BX.out | refine blk_drewN ?_ _ | refine blk_drew ?_ | refine blk_alloc ?_ _))) hb); replace HX := Aside0.mk (HX.out.below (below_step (by repeat (first | (with_reducible exact Below.refl _ _) | apply below_alloc | apply pw_below_drewN | apply below_drew1)) hb)); (try replace HOff := Aside0.mk (Kd.C_below HOff.out (below_step (by repeat (first | (with_reducible exact Below.refl _ _) | apply below_alloc | apply pw_below_drewN | apply below_drew1)) hb))); (try replace HVal := Aside0.mk (Kd.C_below HVal.out (below_step (by repeat (first | (with_reducible exact Below.refl _ _) | apply below_alloc | apply pw_below_drewN | apply below_drew1)) hb))); (try replace HSp := Aside0.mk (Kd.C_below HSp.out (below_step (by repeat (first | (with_reducible exact Below.refl _ _) | apply below_alloc | apply pw_below_drewN | apply below_drew1)) hb))); (try replace HCv := Aside0.mk (Kd.C_below HCv.out (below_step (by repeat (first | (with_reducible exact Below.refl _ _) | apply below_alloc | apply pw_below_drewN | apply below_drew1)) hb))); (try replace HCw := Aside0.mk (Kd.C_below HCw.out (below_step (by repeat (first | (with_reducible exact Below.refl _ _) | apply below_alloc | apply pw_below_drewN | apply below_drew1)) hb))); (try replace HU := Aside0.mk (HU.out.below (below_step (by repeat (first | (with_reducible exact Below.refl _ _) | apply below_alloc | apply pw_below_drewN | apply below_drew1)) hb))); (try replace HL := Aside0.mk (HL.out.below (below_step (by repeat (first | (with_reducible exact Below.refl _ _) | apply below_alloc | apply pw_below_drewN | apply below_drew1)) hb))); clear hb; have HL := Aside0.mk hy; clear hy; (try clear x0 x1 x2 x3); (try clear lt_BX); have lt_BX := blk_lt BX.out; obtain ⟨x0, x1, x2, x3⟩ := cells4 BX.out) | (go_at_call 21; (with_reducible refine (explains_at (HU.out.below (by repeat (first | (with_reducible exact Below.refl _ _) | apply below_alloc | apply pw_below_drewN | apply below_drew1))) (HL.out.below (by repeat (first | (with_reducible exact Below.refl _ _) | apply below_alloc | apply pw_below_drewN | apply below_drew1))) hln).mono ?_); (rw [HE.out]); rintro e w7 ⟨rfl, hb⟩; clear HU HL; replace HB := Aside0.mk (below_step (by repeat (first | (with_reducible exact HB.out) | apply below_alloc | apply pw_below_drewN | apply below_drew1 | refine below_set ?_ (by omega))) hb); replace BX := Aside0.mk (blk_below (g := w2.heap.size) (o := .cells #[.slice A0 lots.length c0, .slice A1 samples.length c1, .int .i64 spread, .slice Ar L.length cr] 26 (0, 0)) (by (with_reducible repeat (first | exact BX.out | refine blk_drewN ?_ _ | refine blk_drew ?_ | refine blk_alloc ?_ _))) hb); replace HX := Aside0.mk (HX.out.below (below_step (by repeat (first | (with_reducible exact Below.refl _ _) | apply below_alloc | apply pw_below_drewN | apply below_drew1)) hb)); (try replace HOff := Aside0.mk (Kd.C_below HOff.out (below_step (by repeat (first | (with_reducible exact Below.refl _ _) | apply below_alloc | apply pw_below_drewN | apply below_drew1)) hb))); (try replace HVal := Aside0.mk (Kd.C_below HVal.out (below_step (by repeat (first | (with_reducible exact Below.refl _ _) | apply below_alloc | apply pw_below_drewN | apply below_drew1)) hb))); (try replace HSp := Aside0.mk (Kd.C_below HSp.out (below_step (by repeat (first | (with_reducible exact Below.refl _ _) | apply below_alloc | apply pw_below_drewN | apply below_drew1)) hb))); (try replace HCv := Aside0.mk (Kd.C_below HCv.out (below_step (by repeat (first | (with_reducible exact Below.refl _ _) | apply below_alloc | apply pw_below_drewN | apply below_drew1)) hb))); (try replace HCw := Aside0.mk (Kd.C_below HCw.out (below_step (by repeat (first | (with_reducible exact Below.refl _ _) | apply below_alloc | apply pw_below_drewN | apply below_drew1)) hb))); clear hb; (try clear x0 x1 x2 x3); (try clear lt_BX); have lt_BX := blk_lt BX.out; obtain ⟨x0, x1, x2, x3⟩ := cells4 BX.out) | (go_at_call 26; (with_reducible refine (spans_at (HU.out.below (by repeat (first | (with_reducible exact Below.refl _ _) | apply below_alloc | apply pw_below_drewN | apply below_drew1))) (HL.out.below (by repeat (first | (with_reducible exact Below.refl _ _) | apply below_alloc | apply pw_below_drewN | apply below_drew1))) hln).mono ?_); (rw [HS.out]); rintro e w8 ⟨_, rfl, ⟨As, cs, rfl, hcs, hSp⟩, hb⟩; clear HU HL; replace HB := Aside0.mk (below_step (by repeat (first | (with_reducible exact HB.out) | apply below_alloc | apply pw_below_drewN | apply below_drew1 | refine below_set ?_ (by omega))) hb); replace BX := Aside0.mk (blk_below (g := w2.heap.size) (o := .cells #[.slice A0 lots.length c0, .slice A1 samples.length c1, .int .i64 spread, .slice Ar L.length cr] 26 (0, 0)) (by (with_reducible repeat (first | exact BX.out | refine blk_drewN ?_ _ | refine blk_drew ?_ | refine blk_alloc ?_ _))) hb); replace HX := Aside0.mk (HX.out.below (below_step (by repeat (first | (with_reducible exact Below.refl _ _) | apply below_alloc | apply pw_below_drewN | apply below_drew1)) hb)); (try replace HOff := Aside0.mk (Kd.C_below HOff.out (below_step (by repeat (first | (with_reducible exact Below.refl _ _) | apply below_alloc | apply pw_below_drewN | apply below_drew1)) hb))); (try replace HVal := Aside0.mk (Kd.C_below HVal.out (below_step (by repeat (first | (with_reducible exact Below.refl _ _) | apply below_alloc | apply pw_below_drewN | apply below_drew1)) hb))); (try replace HSp := Aside0.mk (Kd.C_below HSp.out (below_step (by repeat (first | (with_reducible exact Below.refl _ _) | apply below_alloc | apply pw_below_drewN | apply below_drew1)) hb))); (try replace HCv := Aside0.mk (Kd.C_below HCv.out (below_step (by repeat (first | (with_reducible exact Below.refl _ _) | apply below_alloc | apply pw_below_drewN | apply below_drew1)) hb))); (try replace HCw := Aside0.mk (Kd.C_below HCw.out (below_step (by repeat (first | (with_reducible exact Below.refl _ _) | apply below_alloc | apply pw_below_drewN | apply below_drew1)) hb))); clear hb; (try clear x0 x1 x2 x3); (try clear lt_BX); have lt_BX := blk_lt BX.out; obtain ⟨x0, x1, x2, x3⟩ := cells4 BX.out; have HSp := Aside0.mk hSp; clear hSp) | (go_at_call 29; (with_reducible refine (least_at (HU.out.below (by repeat (first | (with_reducible exact Below.refl _ _) | apply below_alloc | apply pw_below_drewN | apply below_drew1)))).mono ?_); (rw [HLe.out]); rintro e w9 ⟨_, rfl, ⟨Al, cl, rfl, hcl, hLl⟩, hb⟩; clear HU hLl; replace HB := Aside0.mk (below_step (by repeat (first | (with_reducible exact HB.out) | apply below_alloc | apply pw_below_drewN | apply below_drew1 | refine below_set ?_ (by omega))) hb); replace BX := Aside0.mk (blk_below (g := w2.heap.size) (o := .cells #[.slice A0 lots.length c0, .slice A1 samples.length c1, .int .i64 spread, .slice Ar L.length cr] 26 (0, 0)) (by (with_reducible repeat (first | exact BX.out | refine blk_drewN ?_ _ | refine blk_drew ?_ | refine blk_alloc ?_ _))) hb); replace HX := Aside0.mk (HX.out.below (below_step (by repeat (first | (with_reducible exact Below.refl _ _) | apply below_alloc | apply pw_below_drewN | apply below_drew1)) hb)); (try replace HOff := Aside0.mk (Kd.C_below HOff.out (below_step (by repeat (first | (with_reducible exact Below.refl _ _) | apply below_alloc | apply pw_below_drewN | apply below_drew1)) hb))); (try replace HVal := Aside0.mk (Kd.C_below HVal.out (below_step (by repeat (first | (with_reducible exact Below.refl _ _) | apply below_alloc | apply pw_below_drewN | apply below_drew1)) hb))); (try replace HSp := Aside0.mk (Kd.C_below HSp.out (below_step (by repeat (first | (with_reducible exact Below.refl _ _) | apply below_alloc | apply pw_below_drewN | apply below_drew1)) hb))); (try replace HCv := Aside0.mk (Kd.C_below HCv.out (below_step (by repeat (first | (with_reducible exact Below.refl _ _) | apply below_alloc | apply pw_below_drewN | apply below_drew1)) hb))); (try replace HCw := Aside0.mk (Kd.C_below HCw.out (below_step (by repeat (first | (with_reducible exact Below.refl _ _) | apply below_alloc | apply pw_below_drewN | apply below_drew1)) hb))); clear hb; (try clear x0 x1 x2 x3); (try clear lt_BX); have lt_BX := blk_lt BX.out; obtain ⟨x0, x1, x2, x3⟩ := cells4 BX.out) | (go_at_call 38; (with_reducible refine (convicted_at (HU.out.below (by repeat (first | (with_reducible exact Below.refl _ _) | apply below_alloc | apply pw_below_drewN | apply below_drew1)))).mono ?_); (rw [HCo.out]); rintro e w10 ⟨_, rfl, ⟨Ac, cc, rfl, hcc, hCv⟩, hb⟩; clear HU; replace HB := Aside0.mk (below_step (by repeat (first | (with_reducible exact HB.out) | apply below_alloc | apply pw_below_drewN | apply below_drew1 | refine below_set ?_ (by omega))) hb); replace BX := Aside0.mk (blk_below (g := w2.heap.size) (o := .cells #[.slice A0 lots.length c0, .slice A1 samples.length c1, .int .i64 spread, .slice Ar L.length cr] 26 (0, 0)) (by (with_reducible repeat (first | exact BX.out | refine blk_drewN ?_ _ | refine blk_drew ?_ | refine blk_alloc ?_ _))) hb); replace HX := Aside0.mk (HX.out.below (below_step (by repeat (first | (with_reducible exact Below.refl _ _) | apply below_alloc | apply pw_below_drewN | apply below_drew1)) hb)); (try replace HOff := Aside0.mk (Kd.C_below HOff.out (below_step (by repeat (first | (with_reducible exact Below.refl _ _) | apply below_alloc | apply pw_below_drewN | apply below_drew1)) hb))); (try replace HVal := Aside0.mk (Kd.C_below HVal.out (below_step (by repeat (first | (with_reducible exact Below.refl _ _) | apply below_alloc | apply pw_below_drewN | apply below_drew1)) hb))); (try replace HSp := Aside0.mk (Kd.C_below HSp.out (below_step (by repeat (first | (with_reducible exact Below.refl _ _) | apply below_alloc | apply pw_below_drewN | apply below_drew1)) hb))); (try replace HCv := Aside0.mk (Kd.C_below HCv.out (below_step (by repeat (first | (with_reducible exact Below.refl _ _) | apply below_alloc | apply pw_below_drewN | apply below_drew1)) hb))); (try replace HCw := Aside0.mk (Kd.C_below HCw.out (below_step (by repeat (first | (with_reducible exact Below.refl _ _) | apply below_alloc | apply pw_below_drewN | apply below_drew1)) hb))); clear hb; (try clear x0 x1 x2 x3); (try clear lt_BX); have lt_BX := blk_lt BX.out; obtain ⟨x0, x1, x2, x3⟩ := cells4 BX.out; have HCv := Aside0.mk hCv; clear hCv))
 clear x0 x1 x2 x3 lt_BX BX HX HThX HE HS HLe HCo HOk HW HCw HI HRd f1 f2
 go_loopw [20] (fun q wr => ∃ i : Int, 0 ≤ i ∧ i ≤ samples.length ∧ q = .int .i64 i ∧ Aside0 (Below w10.heap.size w10 wr)) (fun q _ => samples.length - (intOf q).toNat)
 case atStart => exact ⟨0, by omega, by omega, rfl, ⟨Below.refl _ _⟩⟩
 case round =>
  obtain ⟨i, i0, i1, rfl, HBr⟩ := hrel
  by_cases hlt : i < (samples.length : Int)
  ·have HBd := below_drew1 HBr.out
   obtain ⟨adV, hAV, hx0⟩ := Kd.at_int (Kd.C_below HVal.out HBd) i i0 (show i < (vals.length : Int) by omega)
   subst hAV
   obtain ⟨adS, hAS, hx1, hx2⟩ := at_T46 (Kd.C_below HSp.out HBd) i i0 (show i < (sp.length : Int) by omega)
   subst hAS
   clear HBd
   obtain ⟨g0, g1⟩ := HIn.out i i0 hlt
   have c0 : decide (rd vals i < (rd_T46 sp i).f0) = false := decide_eq_false (by omega)
   have c1 : decide ((rd_T46 sp i).f1 < rd vals i) = false := decide_eq_false (by omega)
   have p0 : (0 ≤ i) = True := eq_true i0
   have p1 : (i < (vals.length : Int)) = True := eq_true (by omega)
   have p2 : (i < (sp.length : Int)) = True := eq_true (by omega)
   clear g0 g1
   go_wp2
   refine start_ (n := 22) (S := fun w' => w'.cell? (adV.add i.toNat) = some (.int .i64 (rd vals i)) ∧ w'.cell? (adS.add (i.toNat * 2)) = some (.int .i64 ((rd_T46 sp i).f0)) ∧ w'.cell? ⟨(adS.add (i.toNat * 2)).block, (adS.add (i.toNat * 2)).off + 1, none⟩ = some (.int .i64 ((rd_T46 sp i).f1))) (ds := []) #[false, false, false, false, false, false, false, false, false, false, false, false, false, false, false, false, false, false, false, false, false, false] (by kernel_rfl) rfl rfl ⟨hx0, hx1, hx2⟩ (fun hHeld => ?_)
   refine with_tabW truth_a.tab14 truth_a.bits14 (fun HT_ HW_ => ?_)
   replace HBr := Aside0.mk (below_drew1 HBr.out)
   generalize wr.drew = ws at HBr hx0 hx1 hx2 hHeld ⊢
   refine pure_ (i := 0) (N := some 108) (v := ?_) (a' := ?_) #[true, false, false, false, false, false, false, false, false, false, false, false, false, false, false, false, false, false, false, false, false, false] rfl rfl (any_of HT_.out (by kernel_rfl)) (fun _ _ _ h => h) (Or.inl ⟨by rfl, ?_⟩) ?_ ?_
   rotate_left
   ·intro w'
    go_simp
    with_reducible rfl
   rotate_left
   ·simp only [Act.put, List.setIfInBounds_toArray, List.set_cons_zero, List.set_cons_succ, i64_w, i32_w]
    rfl
   refine pure_ (i := 1) (N := some 109) (v := ?_) (a' := ?_) #[true, true, false, false, false, false, false, false, false, false, false, false, false, false, false, false, false, false, false, false, false, false] rfl rfl (any_of HT_.out (by kernel_rfl)) (fun _ _ _ h => h) (Or.inl ⟨by rfl, ?_⟩) ?_ ?_
   rotate_left
   ·intro w'
    go_simp
    with_reducible rfl
   rotate_left
   ·simp only [Act.put, List.setIfInBounds_toArray, List.set_cons_zero, List.set_cons_succ, i64_w, i32_w]
    rfl
   refine pure_ (i := 2) (N := some 110) (v := ?_) (a' := ?_) #[true, true, true, false, false, false, false, false, false, false, false, false, false, false, false, false, false, false, false, false, false, false] rfl rfl (any_of HT_.out (by kernel_rfl)) (fun _ _ _ h => h) (Or.inl ⟨by rfl, ?_⟩) ?_ ?_
   rotate_left
   ·intro w'
    go_simp
    with_reducible rfl
   rotate_left
   ·simp only [Act.put, List.setIfInBounds_toArray, List.set_cons_zero, List.set_cons_succ, i64_w, i32_w]
    rfl
   refine pure_ (i := 4) (N := some 112) (v := ?_) (a' := ?_) #[true, true, true, false, true, false, false, false, false, false, false, false, false, false, false, false, false, false, false, false, false, false] rfl rfl (any_of HT_.out (by kernel_rfl)) (fun _ _ _ h => h) (Or.inl ⟨by rfl, ?_⟩) ?_ ?_
   rotate_left
   ·intro w'
    go_simp
    with_reducible rfl
   rotate_left
   ·simp only [Act.put, List.setIfInBounds_toArray, List.set_cons_zero, List.set_cons_succ, i64_w, i32_w]
    rfl
   refine pure_ (i := 5) (N := some 113) (v := ?_) (a' := ?_) #[true, true, true, false, true, true, false, false, false, false, false, false, false, false, false, false, false, false, false, false, false, false] rfl rfl (any_of HT_.out (by kernel_rfl)) (fun _ _ _ h => h) (Or.inl ⟨by rfl, ?_⟩) ?_ ?_
   rotate_left
   ·intro w'
    go_simp
    with_reducible rfl
   rotate_left
   ·simp only [Act.put, List.setIfInBounds_toArray, List.set_cons_zero, List.set_cons_succ, i64_w, i32_w]
    rfl
   refine pure_ (i := 6) (N := some 114) (v := ?_) (a' := ?_) #[true, true, true, false, true, true, true, false, false, false, false, false, false, false, false, false, false, false, false, false, false, false] rfl rfl (any_of HT_.out (by kernel_rfl)) (fun _ _ _ h => h) (Or.inl ⟨by rfl, ?_⟩) ?_ ?_
   rotate_left
   ·intro w'
    go_simp
    with_reducible rfl
   rotate_left
   ·simp only [Act.put, List.setIfInBounds_toArray, List.set_cons_zero, List.set_cons_succ, i64_w, i32_w]
    rfl
   refine pure_ (i := 7) (N := some 115) (v := ?_) (a' := ?_) #[true, true, true, false, true, true, true, true, false, false, false, false, false, false, false, false, false, false, false, false, false, false] rfl rfl (any_of HT_.out (by kernel_rfl)) (fun _ _ _ h => h) (Or.inl ⟨by rfl, ?_⟩) ?_ ?_
   rotate_left
   ·intro w'
    go_simp
    with_reducible rfl
   rotate_left
   ·simp only [Act.put, List.setIfInBounds_toArray, List.set_cons_zero, List.set_cons_succ, i64_w, i32_w]
    rfl
   refine take_ (i := 3) (N := some 111) (v := ?_) (a' := ?_) #[true, true, true, true, true, true, true, true, false, false, false, false, false, false, false, false, false, false, false, false, false, false] rfl rfl (take_ofW HT_.out HW_.out (by kernel_rfl)) (fun _ _ _ h => h) (Or.inl ⟨by rfl, ?_⟩) hHeld ?_ ?_
   rotate_left
   ·rintro w' ⟨s0, s1, s2⟩
    go_simp
    with_reducible rfl
   rotate_left
   ·simp only [Act.put, List.setIfInBounds_toArray, List.set_cons_zero, List.set_cons_succ, i64_w, i32_w]
    rfl
   refine take_ (i := 8) (N := some 116) (v := ?_) (a' := ?_) #[true, true, true, true, true, true, true, true, true, false, false, false, false, false, false, false, false, false, false, false, false, false] rfl rfl (take_ofW HT_.out HW_.out (by kernel_rfl)) (fun _ _ _ h => h) (Or.inl ⟨by rfl, ?_⟩) hHeld ?_ ?_
   rotate_left
   ·rintro w' ⟨s0, s1, s2⟩
    go_simp
    with_reducible rfl
   rotate_left
   ·simp only [Act.put, List.setIfInBounds_toArray, List.set_cons_zero, List.set_cons_succ, i64_w, i32_w]
    rfl
   refine pure_ (i := 9) (N := some 117) (v := ?_) (a' := ?_) #[true, true, true, true, true, true, true, true, true, true, false, false, false, false, false, false, false, false, false, false, false, false] rfl rfl (any_of HT_.out (by kernel_rfl)) (fun _ _ _ h => h) (Or.inl ⟨by rfl, ?_⟩) ?_ ?_
   rotate_left
   ·intro w'
    go_simp
    with_reducible rfl
   rotate_left
   ·simp only [Act.put, List.setIfInBounds_toArray, List.set_cons_zero, List.set_cons_succ, i64_w, i32_w]
    rfl
   refine pure_ (i := 10) (N := some 118) (v := ?_) (a' := ?_) #[true, true, true, true, true, true, true, true, true, true, true, false, false, false, false, false, false, false, false, false, false, false] rfl rfl (any_of HT_.out (by kernel_rfl)) (fun _ _ _ h => h) (Or.inl ⟨by rfl, ?_⟩) ?_ ?_
   rotate_left
   ·intro w'
    go_simp
    with_reducible rfl
   rotate_left
   ·simp only [Act.put, List.setIfInBounds_toArray, List.set_cons_zero, List.set_cons_succ, i64_w, i32_w]
    rfl
   refine pure_ (i := 11) (N := some 119) (v := ?_) (a' := ?_) #[true, true, true, true, true, true, true, true, true, true, true, true, false, false, false, false, false, false, false, false, false, false] rfl rfl (any_of HT_.out (by kernel_rfl)) (fun _ _ _ h => h) (Or.inl ⟨by rfl, ?_⟩) ?_ ?_
   rotate_left
   ·intro w'
    go_simp
    with_reducible rfl
   rotate_left
   ·simp only [Act.put, List.setIfInBounds_toArray, List.set_cons_zero, List.set_cons_succ, i64_w, i32_w]
    rfl
   refine pure_ (i := 12) (N := some 120) (v := ?_) (a' := ?_) #[true, true, true, true, true, true, true, true, true, true, true, true, true, false, false, false, false, false, false, false, false, false] rfl rfl (any_of HT_.out (by kernel_rfl)) (fun _ _ _ h => h) (Or.inl ⟨by rfl, ?_⟩) ?_ ?_
   rotate_left
   ·intro w'
    go_simp
    with_reducible rfl
   rotate_left
   ·simp only [Act.put, List.setIfInBounds_toArray, List.set_cons_zero, List.set_cons_succ, i64_w, i32_w]
    rfl
   refine pure_ (i := 13) (N := some 121) (v := ?_) (a' := ?_) #[true, true, true, true, true, true, true, true, true, true, true, true, true, true, false, false, false, false, false, false, false, false] rfl rfl (any_of HT_.out (by kernel_rfl)) (fun _ _ _ h => h) (Or.inl ⟨by rfl, ?_⟩) ?_ ?_
   rotate_left
   ·intro w'
    go_simp
    with_reducible rfl
   rotate_left
   ·simp only [Act.put, List.setIfInBounds_toArray, List.set_cons_zero, List.set_cons_succ, i64_w, i32_w]
    rfl
   refine pure_ (i := 15) (N := some 123) (v := ?_) (a' := ?_) #[true, true, true, true, true, true, true, true, true, true, true, true, true, true, false, true, false, false, false, false, false, false] rfl rfl (any_of HT_.out (by kernel_rfl)) (fun _ _ _ h => h) (Or.inl ⟨by rfl, ?_⟩) ?_ ?_
   rotate_left
   ·intro w'
    go_simp
    with_reducible rfl
   rotate_left
   ·simp only [Act.put, List.setIfInBounds_toArray, List.set_cons_zero, List.set_cons_succ, i64_w, i32_w]
    rfl
   refine pure_ (i := 16) (N := some 124) (v := ?_) (a' := ?_) #[true, true, true, true, true, true, true, true, true, true, true, true, true, true, false, true, true, false, false, false, false, false] rfl rfl (any_of HT_.out (by kernel_rfl)) (fun _ _ _ h => h) (Or.inl ⟨by rfl, ?_⟩) ?_ ?_
   rotate_left
   ·intro w'
    go_simp
    with_reducible rfl
   rotate_left
   ·simp only [Act.put, List.setIfInBounds_toArray, List.set_cons_zero, List.set_cons_succ, i64_w, i32_w]
    rfl
   refine pure_ (i := 17) (N := some 125) (v := ?_) (a' := ?_) #[true, true, true, true, true, true, true, true, true, true, true, true, true, true, false, true, true, true, false, false, false, false] rfl rfl (any_of HT_.out (by kernel_rfl)) (fun _ _ _ h => h) (Or.inl ⟨by rfl, ?_⟩) ?_ ?_
   rotate_left
   ·intro w'
    go_simp
    with_reducible rfl
   rotate_left
   ·simp only [Act.put, List.setIfInBounds_toArray, List.set_cons_zero, List.set_cons_succ, i64_w, i32_w]
    rfl
   refine pure_ (i := 18) (N := some 126) (v := ?_) (a' := ?_) #[true, true, true, true, true, true, true, true, true, true, true, true, true, true, false, true, true, true, true, false, false, false] rfl rfl (any_of HT_.out (by kernel_rfl)) (fun _ _ _ h => h) (Or.inl ⟨by rfl, ?_⟩) ?_ ?_
   rotate_left
   ·intro w'
    go_simp
    with_reducible rfl
   rotate_left
   ·simp only [Act.put, List.setIfInBounds_toArray, List.set_cons_zero, List.set_cons_succ, i64_w, i32_w]
    rfl
   refine take_ (i := 14) (N := some 122) (v := ?_) (a' := ?_) #[true, true, true, true, true, true, true, true, true, true, true, true, true, true, true, true, true, true, true, false, false, false] rfl rfl (take_ofW HT_.out HW_.out (by kernel_rfl)) (fun _ _ _ h => h) (Or.inl ⟨by rfl, ?_⟩) hHeld ?_ ?_
   rotate_left
   ·rintro w' ⟨s0, s1, s2⟩
    go_simp
    with_reducible rfl
   rotate_left
   ·simp only [Act.put, List.setIfInBounds_toArray, List.set_cons_zero, List.set_cons_succ, i64_w, i32_w]
    rfl
   refine take_ (i := 19) (N := some 127) (v := ?_) (a' := ?_) #[true, true, true, true, true, true, true, true, true, true, true, true, true, true, true, true, true, true, true, true, false, false] rfl rfl (take_ofW HT_.out HW_.out (by kernel_rfl)) (fun _ _ _ h => h) (Or.inl ⟨by rfl, ?_⟩) hHeld ?_ ?_
   rotate_left
   ·rintro w' ⟨s0, s1, s2⟩
    go_simp
    with_reducible rfl
   rotate_left
   ·simp only [Act.put, List.setIfInBounds_toArray, List.set_cons_zero, List.set_cons_succ, i64_w, i32_w]
    rfl
   refine pure_ (i := 20) (N := some 128) (v := ?_) (a' := ?_) #[true, true, true, true, true, true, true, true, true, true, true, true, true, true, true, true, true, true, true, true, true, false] rfl rfl (any_of HT_.out (by kernel_rfl)) (fun _ _ _ h => h) (Or.inl ⟨by rfl, ?_⟩) ?_ ?_
   rotate_left
   ·intro w'
    go_simp
    with_reducible rfl
   rotate_left
   ·simp only [Act.put, List.setIfInBounds_toArray, List.set_cons_zero, List.set_cons_succ, i64_w, i32_w]
    rfl
   refine pure_ (i := 21) (N := some 129) (v := ?_) (a' := ?_) #[true, true, true, true, true, true, true, true, true, true, true, true, true, true, true, true, true, true, true, true, true, true] rfl rfl (any_of HT_.out (by kernel_rfl)) (fun _ _ _ h => h) (Or.inl ⟨by rfl, ?_⟩) ?_ ?_
   rotate_left
   ·intro w'
    go_simp
    with_reducible rfl
   rotate_left
   ·simp only [Act.put, List.setIfInBounds_toArray, List.set_cons_zero, List.set_cons_succ, i64_w, i32_w]
    rfl
   refine done_ (done_of HT_.out (by kernel_rfl)) ?_
   go_wp2
   go_roundw
   case rel => exact ⟨i + 1, by omega, by omega, by go_num, ⟨by repeat (first | (with_reducible exact HBr.out) | apply below_alloc | apply pw_below_drewN | apply below_drew1)⟩⟩
   case measure => simp [intOf]; omega
  ·have p2 : decide (i < (sp.length : Int)) = false := decide_eq_false (by omega)
   go_wp2
   clear p2
   go_loopw [21] (fun q w2' => ∃ i : Int, 0 ≤ i ∧ i ≤ cl2.length ∧ q = .int .i64 i ∧ Aside0 (Below w10.heap.size w10 w2')) (fun q _ => cl2.length - (intOf q).toNat)
   case atStart => exact ⟨0, by omega, by omega, rfl, HBr⟩
   case round =>
    clear HBr
    obtain ⟨i, i0, i1, rfl, HBr⟩ := hrel
    by_cases hlt : i < (cl2.length : Int)
    ·have c0 : decide (i < (cl2.length : Int)) = true := decide_eq_true hlt
     by_cases hl : ll.length = off.length
     ·have c1 : ((ll.length : Int) == (off.length : Int)) = true := beq_iff_eq.2 (by omega)
      have hmem := HCm.out hl i i0 hlt
      obtain ⟨adC, hAC, hy⟩ := Kd.at_int (Kd.C_below HCv.out HBr.out) i i0 hlt
      subst hAC
      have p0 : (0 ≤ i) = True := eq_true i0
      clear hl
      go_wp2_with (first | (go_at_call 39; (with_reducible refine (has_at Ao co off (rd cl2 i) (Kd.C_below HOff.out (by repeat (first | (with_reducible exact HBr.out) | apply below_alloc | apply pw_below_drewN | apply below_drew1 | refine below_set ?_ (by omega)))) hco (by omega)).mono ?_); (rw [hmem]); rintro e w12 ⟨rfl, hb⟩; replace HBr := Aside0.mk (below_step (by repeat (first | (with_reducible exact HBr.out) | apply below_alloc | apply pw_below_drewN | apply below_drew1)) hb); clear hb))
      go_roundw
      case rel => exact ⟨i + 1, by omega, by omega, by go_num, HBr⟩
      case measure => simp [intOf]; omega
     ·have c1 : ((ll.length : Int) == (off.length : Int)) = false := beq_eq_false_iff_ne.2 (by omega)
      clear hl
      go_wp2_with (first | (go_at_call 18; (with_reducible refine (wakes_any _).mono ?_); rintro e w13 ⟨rfl, hb⟩; replace HBr := Aside0.mk (below_step (by repeat (first | (with_reducible exact HBr.out) | apply below_alloc | apply pw_below_drewN | apply below_drew1 | refine below_set ?_ (by omega))) hb); clear hb))
      go_ret
      exact ⟨rfl, below_step HB.out HBr.out⟩
    ·have c0 : decide (i < (cl2.length : Int)) = false := decide_eq_false hlt
     go_wp2_with (first | (go_at_call 18; (with_reducible refine (wakes_any _).mono ?_); rintro e w13 ⟨rfl, hb⟩; replace HBr := Aside0.mk (below_step (by repeat (first | (with_reducible exact HBr.out) | apply below_alloc | apply pw_below_drewN | apply below_drew1 | refine below_set ?_ (by omega))) hb); clear hb))
     go_ret
     exact ⟨rfl, below_step HB.out HBr.out⟩
def truth_b.T4 : Bool × List (List Nat × List Nat) := (true, [([], []), ([], []), ([0, 1], [0, 1]), ([], []), ([], []), ([3, 4, 2], [3, 4]), ([2, 5, 0, 1, 2], [2]), ([5, 6, 0, 1, 2, 3, 4, 5, 6], [5])])
def truth_b.B4 : List Nat := [0, 0, 3, 0, 0, 31, 63, 127]
theorem truth_b.tab4 : rtab .any (opsOf Try.f15 4) = truth_b.T4 := by kernel_rfl
theorem truth_b.bits4 : waitsOk truth_b.T4.2 truth_b.B4 = true := by kernel_rfl
def truth_b.T14 : Bool × List (List Nat × List Nat) := (true, [([], []), ([], []), ([0, 1], [0, 1]), ([2], [2]), ([], []), ([], []), ([4, 5], [4, 5]), ([6], [6]), ([7], [7]), ([3, 8], [3, 8]), ([9], [9]), ([10], [10]), ([10], [10]), ([11, 12, 10], [10, 11, 12]), ([13, 10], [10, 13]), ([10], [10]), ([10], [10]), ([15, 16, 10], [10, 15, 16]), ([17, 10], [10, 17]), ([18, 10], [10, 18]), ([14, 19, 10], [10, 14, 19]), ([10, 20], [10, 20])])
def truth_b.B14 : List Nat := [0, 0, 3, 7, 0, 0, 48, 112, 240, 511, 1023, 2047, 2047, 8191, 16383, 2047, 2047, 100351, 231423, 493567, 1048575, 2097151]
theorem truth_b.tab14 : rtab .any (opsOf Try.f15 14) = truth_b.T14 := by kernel_rfl
theorem truth_b.bits14 : waitsOk truth_b.T14.2 truth_b.B14 = true := by kernel_rfl
set_option maxHeartbeats 4000000 in
set_option maxRecDepth 100000 in
theorem truth_b {W : World} {v : Value} {A0 : Option Addr} {c0 : Nat} {lots : List S44} {A1 : Option Addr} {c1 : Nat} {samples : List Int} {spread : Int} {A3 : Option Addr} {c3 : Nat} {labs : List S62} (h : In26 W v A0 c0 lots A1 c1 samples spread A3 c3 labs) (Aw : Option Addr) (cw : Nat) (words : List Int) (hC : (Kd.int .u16).C W Aw words.length words) (hcw : words.length ≤ cw) (hw : WordsOk words) (bits shift : Int) (hb0 : 0 ≤ bits) (hb1 : bits < 256) (hs0 : -40000 ≤ shift) (hs1 : shift ≤ 40000) (hr : Ev (fun k => tensilelaw08_ready.f k lots samples spread labs) true) (hth : ThinR lots samples labs) (hok : RoundOk (lots.map m46) samples spread (labs.map m75)) (off vals : List Int) (hoff : chosenF labs.length bits = off) (hvals : trueF lots samples spread words = vals) (hvl : vals.length = samples.length) (hol : off.length ≤ labs.length)
  (he : explainsF (lots.map m46) samples spread ((readF lots samples spread labs words bits shift labs.length).map m75) off = (true, 0)) (sp : List S46) (hsp : spansR (lots.map m46) samples spread ((readF lots samples spread labs words bits shift labs.length).map m75) off = (sp, 0)) (hsl : sp.length = samples.length) (hin : ∀ i : Int, 0 ≤ i → i < samples.length → (rd_T46 sp i).f0 ≤ rd vals i ∧ rd vals i ≤ (rd_T46 sp i).f1) (ll cl2 : List Int) (hle : leastF (lots.map m46) samples spread ((readF lots samples spread labs words bits shift labs.length).map m75) = (ll, 0)) (hll : ll.length ≤ off.length) (hco : convF (lots.map m46) samples spread ((readF lots samples spread labs words bits shift labs.length).map m75) = (cl2, 7)) (hcl : cl2.length ≤ labs.length) (hcm : ll.length = off.length → ∀ i : Int, 0 ≤ i → i < cl2.length → off.contains (rd cl2 i) = true) :
  Calls Try.prog 15 #[.agg #[.slice A0 lots.length c0, .slice A1 samples.length c1, .int .i64 spread, .slice A3 labs.length c3], .slice Aw words.length cw, .int .u8 bits, .int .i16 shift] W (RetB W (.bool true)) := by
 have HI := Aside0.mk h
 have HB := Aside0.mk (below_alloc (Below.refl _ W) (.cells #[.slice A0 lots.length c0, .slice A1 samples.length c1, .int .i64 spread, .slice A3 labs.length c3] 26))
 have B3 := Aside0.mk (blk_new W (.cells #[.slice A0 lots.length c0, .slice A1 samples.length c1, .int .i64 spread, .slice A3 labs.length c3] 26))
 obtain ⟨p0, p1, p2, p3⟩ := cells4 B3.out
 have lt_B3 := blk_lt B3.out
 have HRd := Aside0.mk hr
 have HE := Aside0.mk he
 have HS := Aside0.mk hsp
 have HLe := Aside0.mk hle
 have HCo := Aside0.mk hco
 have HIn := Aside0.mk hin
 have HCm := Aside0.mk hcm
 have HW := Aside0.mk hw
 have HOk := Aside0.mk hok
 have HThX := Aside0.mk (read_thin (words := words) (bits := bits) (shift := shift) hok)
 have h6 : labs.length ≤ 6 := by have := hok.b6; rwa [List.length_map] at this
 have h8 := hok.s8
 have e2 : IntKind.i64.wrap shift = shift := IntWalk.i64_in _ (by omega)
 have HRead := Aside0.mk (fun W' (h' : In26 W' v A0 c0 lots A1 c1 samples spread A3 c3 labs) (hC' : (Kd.int .u16).C W' Aw words.length words) => read_at h' hok Aw cw words hC' hcw hw bits shift (by omega) (by omega) hb0 hb1)
 have HCw := Aside0.mk hC
 have hvl2 := Nat.le_of_eq hvl
 have hvl3 := Nat.le_of_eq hvl.symm
 have hsl2 := Nat.le_of_eq hsl
 have hsl3 := Nat.le_of_eq hsl.symm
 clear hvl hsl
 generalize readF lots samples spread labs words bits shift labs.length = L at HRead HS HThX HE HLe HCo
 have HOffe := Aside0.mk hoff
 have HVale := Aside0.mk hvals
 clear h hr hth hok hC he hsp hle hco hin hcm hs0 hs1 hoff hvals hw
 go_enter Try.func15, Try.ntmps15
 go_wp2_with (first | (go_at_call 35; (with_reducible refine (ready_at (HI.out.below (by repeat (first | (with_reducible exact HB.out) | apply below_alloc | apply pw_below_drewN | apply below_drew1 | refine below_set ?_ (by omega)))) HRd.out).mono ?_); rintro e w1 ⟨rfl, hb⟩; replace HB := Aside0.mk (below_step (by repeat (first | (with_reducible exact HB.out) | apply below_alloc | apply pw_below_drewN | apply below_drew1 | refine below_set ?_ (by omega))) hb); replace B3 := Aside0.mk (blk_below (g := W.heap.size) (o := .cells #[.slice A0 lots.length c0, .slice A1 samples.length c1, .int .i64 spread, .slice A3 labs.length c3] 26 (0, 0)) (by (with_reducible repeat (first | exact B3.out | refine blk_drewN ?_ _ | refine blk_drew ?_ | refine blk_alloc ?_ _))) hb); clear hb; (try clear p0 p1 p2 p3); (try clear lt_B3); have lt_B3 := blk_lt B3.out; obtain ⟨p0, p1, p2, p3⟩ := cells4 B3.out) | (go_at_call 37; refine Aside0.out ?_))
 refine ⟨?_⟩
 refine (HRead.out _ (HI.out.below (by repeat (first | (with_reducible exact HB.out) | apply below_alloc | apply pw_below_drewN | apply below_drew1 | refine below_set ?_ (by omega)))) (Kd.C_below HCw.out (by repeat (first | (with_reducible exact HB.out) | apply below_alloc | apply pw_below_drewN | apply below_drew1 | refine below_set ?_ (by omega))))).mono ?_
 rintro e w2 ⟨Ar, cr, rfl, hIn, hb⟩
 replace HCw := Aside0.mk (Kd.C_below HCw.out (below_step (by repeat (first | (with_reducible exact HB.out) | apply below_alloc | apply pw_below_drewN | apply below_drew1 | refine below_set ?_ (by omega))) hb))
 replace HB := Aside0.mk (below_step (by repeat (first | (with_reducible exact HB.out) | apply below_alloc | apply pw_below_drewN | apply below_drew1 | refine below_set ?_ (by omega))) hb)
 replace B3 := Aside0.mk (blk_below (g := W.heap.size) (o := .cells #[.slice A0 lots.length c0, .slice A1 samples.length c1, .int .i64 spread, .slice A3 labs.length c3] 26 (0, 0)) (by (with_reducible repeat (first | exact B3.out | refine blk_drewN ?_ _ | refine blk_drew ?_ | refine blk_alloc ?_ _))) hb)
 clear hb
 (try clear p0 p1 p2 p3)
 (try clear lt_B3)
 have lt_B3 := blk_lt B3.out
 obtain ⟨p0, p1, p2, p3⟩ := cells4 B3.out
 have HX := Aside0.mk (hIn.below (below_alloc (Below.refl _ w2) (.cells #[.slice A0 lots.length c0, .slice A1 samples.length c1, .int .i64 spread, .slice Ar L.length cr] 26)))
 clear hIn HRead
 go_wp2
 have BX := Aside0.mk (blk_new w2 (.cells #[.slice A0 lots.length c0, .slice A1 samples.length c1, .int .i64 spread, .slice Ar L.length cr] 26))
 obtain ⟨x0, x1, x2, x3⟩ := cells4 BX.out
 have lt_BX := blk_lt BX.out
 replace B3 := Aside0.mk (blk_alloc B3.out (.cells #[.slice A0 lots.length c0, .slice A1 samples.length c1, .int .i64 spread, .slice Ar L.length cr] 26))
 replace HB := Aside0.mk (below_alloc HB.out (.cells #[.slice A0 lots.length c0, .slice A1 samples.length c1, .int .i64 spread, .slice Ar L.length cr] 26))
 replace HCw := Aside0.mk (Kd.C_alloc HCw.out (.cells #[.slice A0 lots.length c0, .slice A1 samples.length c1, .int .i64 spread, .slice Ar L.length cr] 26))
 generalize hw3 : w2.alloc (.cells #[.slice A0 lots.length c0, .slice A1 samples.length c1, .int .i64 spread, .slice Ar L.length cr] 26) = w3 at HX BX B3 HB HCw x0 x1 x2 x3 lt_BX ⊢
 clear hw3
 have hOffe := HOffe.out
 have hVale := HVale.out
 refine start_ (n := 8) (S := fun w' => w'.cell? ⟨W.heap.size, 0, none⟩ = some (.slice A0 lots.length c0) ∧ w'.cell? ⟨W.heap.size, 1, none⟩ = some (.slice A1 samples.length c1) ∧ w'.cell? ⟨W.heap.size, 2, none⟩ = some (.int .i64 spread) ∧ w'.cell? ⟨W.heap.size, 3, none⟩ = some (.slice A3 labs.length c3)) (ds := []) #[false, false, false, false, false, false, false, false] (by kernel_rfl) rfl rfl ⟨(blk_cell (blk_drew B3.out) 0).trans rfl, (blk_cell (blk_drew B3.out) 1).trans rfl, (blk_cell (blk_drew B3.out) 2).trans rfl, (blk_cell (blk_drew B3.out) 3).trans rfl⟩ (fun hHeld => ?_)
 refine with_tabW truth_b.tab4 truth_b.bits4 (fun HT_ HW_ => ?_)
 replace B3 := Aside0.mk (blk_drew B3.out)
 replace BX := Aside0.mk (blk_drew BX.out)
 replace HB := Aside0.mk (below_drew1 HB.out)
 replace HX := Aside0.mk (HX.out.below (below_drew1 (Below.refl _ _)))
 replace HCw := Aside0.mk (Kd.C_drew HCw.out)
 clear p0 p1 p2 p3 x0 x1 x2 x3 lt_B3 lt_BX
 generalize w3.drew = ws at B3 BX HB HX HCw hHeld ⊢
 refine pure_ (i := 1) (N := some 33) (v := ?_) (a' := ?_) #[false, true, false, false, false, false, false, false] rfl rfl (any_of HT_.out (by kernel_rfl)) (fun _ _ _ h => h) (Or.inl ⟨by rfl, ?_⟩) ?_ ?_
 rotate_left
 ·intro w'
  go_simp
  with_reducible rfl
 rotate_left
 ·simp only [Act.put, List.setIfInBounds_toArray, List.set_cons_zero, List.set_cons_succ, i64_w, i32_w]
  rfl
 refine pure_ (i := 4) (N := some 36) (v := ?_) (a' := ?_) #[false, true, false, false, true, false, false, false] rfl rfl (any_of HT_.out (by kernel_rfl)) (fun _ _ _ h => h) (Or.inl ⟨by rfl, ?_⟩) ?_ ?_
 rotate_left
 ·intro w'
  go_simp
  with_reducible rfl
 rotate_left
 ·simp only [Act.put, List.setIfInBounds_toArray, List.set_cons_zero, List.set_cons_succ, i64_w, i32_w]
  rfl
 refine take_ (i := 0) (N := some 32) (v := ?_) (a' := ?_) #[true, true, false, false, true, false, false, false] rfl rfl (take_ofW HT_.out HW_.out (by kernel_rfl)) (fun _ _ _ h => h) (Or.inl ⟨by rfl, ?_⟩) hHeld ?_ ?_
 rotate_left
 ·rintro w' ⟨s0, s1, s2, s3⟩
  go_simp
  with_reducible rfl
 rotate_left
 ·simp only [Act.put, List.setIfInBounds_toArray, List.set_cons_zero, List.set_cons_succ, i64_w, i32_w]
  rfl
 refine take_ (i := 3) (N := some 35) (v := ?_) (a' := ?_) #[true, true, false, true, true, false, false, false] rfl rfl (take_ofW HT_.out HW_.out (by kernel_rfl)) (fun _ _ _ h => h) (Or.inl ⟨by rfl, ?_⟩) hHeld ?_ ?_
 rotate_left
 ·rintro w' ⟨s0, s1, s2, s3⟩
  go_simp
  with_reducible rfl
 rotate_left
 ·simp only [Act.put, List.setIfInBounds_toArray, List.set_cons_zero, List.set_cons_succ, i64_w, i32_w]
  rfl
 refine one_ (i := 2) (N := some 34) #[true, true, true, true, true, false, false, false] rfl rfl (one_of HT_.out (by kernel_rfl)) (by decide) (fun K hK => ?_)
 refine goes_ Try.func36 (by kernel_rfl) rfl #[.agg #[.slice A0 lots.length c0, .slice A1 samples.length c1, .int .i64 spread, .slice A3 labs.length c3], .int .u8 bits] (by rfl) rfl rfl (by simp only [List.map_toArray, List.map_cons, List.map_nil]; rfl) ?_
 with_reducible refine (chosen_at (HI.out.below HB.out) h6 bits).mono ?_
 rintro e w20 ⟨_, rfl, hOff, hb⟩
 refine ⟨_, rfl, ?_⟩
 rw [hOffe] at hOff
 obtain ⟨Ao, co, rfl, hco, hOff⟩ := hOff
 replace HB := Aside0.mk (below_step HB.out hb)
 replace B3 := Aside0.mk (blk_below (g := W.heap.size) (o := .cells #[.slice A0 lots.length c0, .slice A1 samples.length c1, .int .i64 spread, .slice A3 labs.length c3] 26 (0, 0)) B3.out hb)
 replace BX := Aside0.mk (blk_below (g := w2.heap.size) (o := .cells #[.slice A0 lots.length c0, .slice A1 samples.length c1, .int .i64 spread, .slice Ar L.length cr] 26 (0, 0)) BX.out hb)
 replace HX := Aside0.mk (HX.out.below hb)
 replace HCw := Aside0.mk (Kd.C_below HCw.out hb)
 (try replace HOff := Aside0.mk (Kd.C_below HOff.out hb))
 have HOff := Aside0.mk hOff
 clear hb hOff
 refine hK.out _ _ ⟨(blk_cell B3.out 0).trans rfl, (blk_cell B3.out 1).trans rfl, (blk_cell B3.out 2).trans rfl, (blk_cell B3.out 3).trans rfl⟩ (fun hHeld => ?_)
 clear hK K
 refine norm_ (a' := ?_) ?_ ?_
 rotate_left
 ·show Act.put _ (some 34) _ = _
  simp only [Act.put, List.setIfInBounds_toArray, List.set_cons_zero, List.set_cons_succ, i64_w, i32_w]
  rfl
 refine one_ (i := 5) (N := some 37) #[true, true, true, true, true, true, false, false] rfl rfl (one_of HT_.out (by kernel_rfl)) (by decide) (fun K hK => ?_)
 refine goes_ Try.func41 (by kernel_rfl) rfl #[.agg #[.slice A0 lots.length c0, .slice A1 samples.length c1, .int .i64 spread, .slice A3 labs.length c3], .slice Aw words.length cw] (by rfl) rfl rfl (by simp only [List.map_toArray, List.map_cons, List.map_nil]; rfl) ?_
 with_reducible refine (true_at (HI.out.below HB.out) HOk.out Aw cw words HCw.out hcw HW.out).mono ?_
 rintro e w21 ⟨_, rfl, hVal, hb⟩
 refine ⟨_, rfl, ?_⟩
 rw [hVale] at hVal
 obtain ⟨aV, cV, rfl, hcV, hVal⟩ := hVal
 replace HB := Aside0.mk (below_step HB.out hb)
 replace B3 := Aside0.mk (blk_below (g := W.heap.size) (o := .cells #[.slice A0 lots.length c0, .slice A1 samples.length c1, .int .i64 spread, .slice A3 labs.length c3] 26 (0, 0)) B3.out hb)
 replace BX := Aside0.mk (blk_below (g := w2.heap.size) (o := .cells #[.slice A0 lots.length c0, .slice A1 samples.length c1, .int .i64 spread, .slice Ar L.length cr] 26 (0, 0)) BX.out hb)
 replace HX := Aside0.mk (HX.out.below hb)
 replace HCw := Aside0.mk (Kd.C_below HCw.out hb)
 (try replace HOff := Aside0.mk (Kd.C_below HOff.out hb))
 have HVal := Aside0.mk hVal
 clear hb hVal
 refine hK.out _ _ ⟨(blk_cell B3.out 0).trans rfl, (blk_cell B3.out 1).trans rfl, (blk_cell B3.out 2).trans rfl, (blk_cell B3.out 3).trans rfl⟩ (fun hHeld => ?_)
 clear hK K
 refine norm_ (a' := ?_) ?_ ?_
 rotate_left
 ·show Act.put _ (some 37) _ = _
  simp only [Act.put, List.setIfInBounds_toArray, List.set_cons_zero, List.set_cons_succ, i64_w, i32_w]
  rfl
 refine pure_ (i := 6) (N := some 10) (v := ?_) (a' := ?_) #[true, true, true, true, true, true, true, false] rfl rfl (any_of HT_.out (by kernel_rfl)) (fun _ _ _ h => h) (Or.inl ⟨by rfl, ?_⟩) ?_ ?_
 rotate_left
 ·intro w'
  go_simp
  with_reducible rfl
 rotate_left
 ·simp only [Act.put, List.setIfInBounds_toArray, List.set_cons_zero, List.set_cons_succ, i64_w, i32_w]
  rfl
 refine pure_ (i := 7) (N := some 11) (v := ?_) (a' := ?_) #[true, true, true, true, true, true, true, true] rfl rfl (any_of HT_.out (by kernel_rfl)) (fun _ _ _ h => h) (Or.inl ⟨by rfl, ?_⟩) ?_ ?_
 rotate_left
 ·intro w'
  go_simp
  with_reducible rfl
 rotate_left
 ·simp only [Act.put, List.setIfInBounds_toArray, List.set_cons_zero, List.set_cons_succ, i64_w, i32_w]
  rfl
 refine done_ (done_of HT_.out (by kernel_rfl)) ?_
 clear hOffe hVale B3
 obtain ⟨x0, x1, x2, x3⟩ := cells4 BX.out
 have lt_BX := blk_lt BX.out
 have f1 : ((sp.length : Int) != (vals.length : Int)) = false := bne_eq_false_iff_eq.2 (by omega)
 have f2 : decide ((off.length : Int) < (ll.length : Int)) = false := decide_eq_false (by omega)
 have hln : off.length < 17592186044416 := by omega
 go_wp2_with (first | (go_at_call 20; (with_reducible refine (round_at (HX.out.below (by repeat (first | (with_reducible exact Below.refl _ _) | apply below_alloc | apply pw_below_drewN | apply below_drew1))) HThX.out).mono ?_); rintro e w4 ⟨u, rfl, hu, hb⟩; replace HB := Aside0.mk (below_step (by repeat (first | (with_reducible exact HB.out) | apply below_alloc | apply pw_below_drewN | apply below_drew1 | refine below_set ?_ (by omega))) hb); replace BX := Aside0.mk (blk_below (g := w2.heap.size) (o := .cells #[.slice A0 lots.length c0, .slice A1 samples.length c1, .int .i64 spread, .slice Ar L.length cr] 26 (0, 0)) (by (with_reducible repeat (first | exact BX.out | refine blk_drewN ?_ _ | refine blk_drew ?_ | refine blk_alloc ?_ _))) hb); replace HX := Aside0.mk (HX.out.below (below_step (by repeat (first | (with_reducible exact Below.refl _ _) | apply below_alloc | apply pw_below_drewN | apply below_drew1)) hb)); (try replace HOff := Aside0.mk (Kd.C_below HOff.out (below_step (by repeat (first | (with_reducible exact Below.refl _ _) | apply below_alloc | apply pw_below_drewN | apply below_drew1)) hb))); (try replace HVal := Aside0.mk (Kd.C_below HVal.out (below_step (by repeat (first | (with_reducible exact Below.refl _ _) | apply below_alloc | apply pw_below_drewN | apply below_drew1)) hb))); (try replace HSp := Aside0.mk (Kd.C_below HSp.out (below_step (by repeat (first | (with_reducible exact Below.refl _ _) | apply below_alloc | apply pw_below_drewN | apply below_drew1)) hb))); (try replace HCv := Aside0.mk (Kd.C_below HCv.out (below_step (by repeat (first | (with_reducible exact Below.refl _ _) | apply below_alloc | apply pw_below_drewN | apply below_drew1)) hb))); (try replace HCw := Aside0.mk (Kd.C_below HCw.out (below_step (by repeat (first | (with_reducible exact Below.refl _ _) | apply below_alloc | apply pw_below_drewN | apply below_drew1)) hb))); (try replace HU := Aside0.mk (HU.out.below (below_step (by repeat (first | (with_reducible exact Below.refl _ _) | apply below_alloc | apply pw_below_drewN | apply below_drew1)) hb))); (try replace HL := Aside0.mk (HL.out.below (below_step (by repeat (first | (with_reducible exact Below.refl _ _) | apply below_alloc | apply pw_below_drewN | apply below_drew1)) hb))); clear hb; have HU := Aside0.mk hu; clear hu; (try clear x0 x1 x2 x3); (try clear lt_BX); have lt_BX := blk_lt BX.out; obtain ⟨x0, x1, x2, x3⟩ := cells4 BX.out) | (go_at_call 22; (with_reducible refine (list_at (inL_mk hco (Kd.C_below HOff.out (by repeat (first | (with_reducible exact Below.refl _ _) | apply below_alloc | apply pw_below_drewN | apply below_drew1)))) hln).mono ?_); rintro e w5 ⟨y, rfl, hy, hb⟩; replace HB := Aside0.mk (below_step (by repeat (first | (with_reducible exact HB.out) | apply below_alloc | apply pw_below_drewN | apply below_drew1 | refine below_set ?_ (by omega))) hb); replace BX := Aside0.mk (blk_below (g := w2.heap.size) (o := .cells #[.slice A0 lots.length c0, .slice A1 samples.length c1, .int .i64 spread, .slice Ar L.length cr] 26 (0, 0)) (by (with_reducible repeat (first | exact BX.out | refine blk_drewN ?_ _ | refine blk_drew ?_ | refine blk_alloc ?_ _))) hb); replace HX := Aside0.mk (HX.out.below (below_step (by repeat (first | (with_reducible exact Below.refl _ _) | apply below_alloc | apply pw_below_drewN | apply below_drew1)) hb)); (try replace HOff := Aside0.mk (Kd.C_below HOff.out (below_step (by repeat (first | (with_reducible exact Below.refl _ _) | apply below_alloc | apply pw_below_drewN | apply below_drew1)) hb))); (try replace HVal := Aside0.mk (Kd.C_below HVal.out (below_step (by repeat (first | (with_reducible exact Below.refl _ _) | apply below_alloc | apply pw_below_drewN | apply below_drew1)) hb))); (try replace HSp := Aside0.mk (Kd.C_below HSp.out (below_step (by repeat (first | (with_reducible exact Below.refl _ _) | apply below_alloc | apply pw_below_drewN | apply below_drew1)) hb))); (try replace HCv := Aside0.mk (Kd.C_below HCv.out (below_step (by repeat (first | (with_reducible exact Below.refl _ _) | apply below_alloc | apply pw_below_drewN | apply below_drew1)) hb))); (try replace HCw := Aside0.mk (Kd.C_below HCw.out (below_step (by repeat (first | (with_reducible exact Below.refl _ _) | apply below_alloc | apply pw_below_drewN | apply below_drew1)) hb))); (try replace HU := Aside0.mk (HU.out.below (below_step (by repeat (first | (with_reducible exact Below.refl _ _) | apply below_alloc | apply pw_below_drewN | apply below_drew1)) hb))); (try replace HL := Aside0.mk (HL.out.below (below_step (by repeat (first | (with_reducible exact Below.refl _ _) | apply below_alloc | apply pw_below_drewN | apply below_drew1)) hb))); clear hb; have HL := Aside0.mk hy; clear hy; (try clear x0 x1 x2 x3); (try clear lt_BX); have lt_BX := blk_lt BX.out; obtain ⟨x0, x1, x2, x3⟩ := cells4 BX.out) | (go_at_call 21; (with_reducible refine (explains_at (HU.out.below (by repeat (first | (with_reducible exact Below.refl _ _) | apply below_alloc | apply pw_below_drewN | apply below_drew1))) (HL.out.below (by repeat (first | (with_reducible exact Below.refl _ _) | apply below_alloc | apply pw_below_drewN | apply below_drew1))) hln).mono ?_); (rw [HE.out]); rintro e w7 ⟨rfl, hb⟩; clear HU HL; replace HB := Aside0.mk (below_step (by repeat (first | (with_reducible exact HB.out) | apply below_alloc | apply pw_below_drewN | apply below_drew1 | refine below_set ?_ (by omega))) hb); replace BX := Aside0.mk (blk_below (g := w2.heap.size) (o := .cells #[.slice A0 lots.length c0, .slice A1 samples.length c1, .int .i64 spread, .slice Ar L.length cr] 26 (0, 0)) (by (with_reducible repeat (first | exact BX.out | refine blk_drewN ?_ _ | refine blk_drew ?_ | refine blk_alloc ?_ _))) hb); replace HX := Aside0.mk (HX.out.below (below_step (by repeat (first | (with_reducible exact Below.refl _ _) | apply below_alloc | apply pw_below_drewN | apply below_drew1)) hb)); (try replace HOff := Aside0.mk (Kd.C_below HOff.out (below_step (by repeat (first | (with_reducible exact Below.refl _ _) | apply below_alloc | apply pw_below_drewN | apply below_drew1)) hb))); (try replace HVal := Aside0.mk (Kd.C_below HVal.out (below_step (by repeat (first | (with_reducible exact Below.refl _ _) | apply below_alloc | apply pw_below_drewN | apply below_drew1)) hb))); (try replace HSp := Aside0.mk (Kd.C_below HSp.out (below_step (by repeat (first | (with_reducible exact Below.refl _ _) | apply below_alloc | apply pw_below_drewN | apply below_drew1)) hb))); (try replace HCv := Aside0.mk (Kd.C_below HCv.out (below_step (by repeat (first | (with_reducible exact Below.refl _ _) | apply below_alloc | apply pw_below_drewN | apply below_drew1)) hb))); (try replace HCw := Aside0.mk (Kd.C_below HCw.out (below_step (by repeat (first | (with_reducible exact Below.refl _ _) | apply below_alloc | apply pw_below_drewN | apply below_drew1)) hb))); clear hb; (try clear x0 x1 x2 x3); (try clear lt_BX); have lt_BX := blk_lt BX.out; obtain ⟨x0, x1, x2, x3⟩ := cells4 BX.out) | (go_at_call 26; (with_reducible refine (spans_at (HU.out.below (by repeat (first | (with_reducible exact Below.refl _ _) | apply below_alloc | apply pw_below_drewN | apply below_drew1))) (HL.out.below (by repeat (first | (with_reducible exact Below.refl _ _) | apply below_alloc | apply pw_below_drewN | apply below_drew1))) hln).mono ?_); (rw [HS.out]); rintro e w8 ⟨_, rfl, ⟨As, cs, rfl, hcs, hSp⟩, hb⟩; clear HU HL; replace HB := Aside0.mk (below_step (by repeat (first | (with_reducible exact HB.out) | apply below_alloc | apply pw_below_drewN | apply below_drew1 | refine below_set ?_ (by omega))) hb); replace BX := Aside0.mk (blk_below (g := w2.heap.size) (o := .cells #[.slice A0 lots.length c0, .slice A1 samples.length c1, .int .i64 spread, .slice Ar L.length cr] 26 (0, 0)) (by (with_reducible repeat (first | exact BX.out | refine blk_drewN ?_ _ | refine blk_drew ?_ | refine blk_alloc ?_ _))) hb); replace HX := Aside0.mk (HX.out.below (below_step (by repeat (first | (with_reducible exact Below.refl _ _) | apply below_alloc | apply pw_below_drewN | apply below_drew1)) hb)); (try replace HOff := Aside0.mk (Kd.C_below HOff.out (below_step (by repeat (first | (with_reducible exact Below.refl _ _) | apply below_alloc | apply pw_below_drewN | apply below_drew1)) hb))); (try replace HVal := Aside0.mk (Kd.C_below HVal.out (below_step (by repeat (first | (with_reducible exact Below.refl _ _) | apply below_alloc | apply pw_below_drewN | apply below_drew1)) hb))); (try replace HSp := Aside0.mk (Kd.C_below HSp.out (below_step (by repeat (first | (with_reducible exact Below.refl _ _) | apply below_alloc | apply pw_below_drewN | apply below_drew1)) hb))); (try replace HCv := Aside0.mk (Kd.C_below HCv.out (below_step (by repeat (first | (with_reducible exact Below.refl _ _) | apply below_alloc | apply pw_below_drewN | apply below_drew1)) hb))); (try replace HCw := Aside0.mk (Kd.C_below HCw.out (below_step (by repeat (first | (with_reducible exact Below.refl _ _) | apply below_alloc | apply pw_below_drewN | apply below_drew1)) hb))); clear hb; (try clear x0 x1 x2 x3); (try clear lt_BX); have lt_BX := blk_lt BX.out; obtain ⟨x0, x1, x2, x3⟩ := cells4 BX.out; have HSp := Aside0.mk hSp; clear hSp) | (go_at_call 29; (with_reducible refine (least_at (HU.out.below (by repeat (first | (with_reducible exact Below.refl _ _) | apply below_alloc | apply pw_below_drewN | apply below_drew1)))).mono ?_); (rw [HLe.out]); rintro e w9 ⟨_, rfl, ⟨Al, cl, rfl, hcl, hLl⟩, hb⟩; clear HU hLl; replace HB := Aside0.mk (below_step (by repeat (first | (with_reducible exact HB.out) | apply below_alloc | apply pw_below_drewN | apply below_drew1 | refine below_set ?_ (by omega))) hb); replace BX := Aside0.mk (blk_below (g := w2.heap.size) (o := .cells #[.slice A0 lots.length c0, .slice A1 samples.length c1, .int .i64 spread, .slice Ar L.length cr] 26 (0, 0)) (by (with_reducible repeat (first | exact BX.out | refine blk_drewN ?_ _ | refine blk_drew ?_ | refine blk_alloc ?_ _))) hb); replace HX := Aside0.mk (HX.out.below (below_step (by repeat (first | (with_reducible exact Below.refl _ _) | apply below_alloc | apply pw_below_drewN | apply below_drew1)) hb)); (try replace HOff := Aside0.mk (Kd.C_below HOff.out (below_step (by repeat (first | (with_reducible exact Below.refl _ _) | apply below_alloc | apply pw_below_drewN | apply below_drew1)) hb))); (try replace HVal := Aside0.mk (Kd.C_below HVal.out (below_step (by repeat (first | (with_reducible exact Below.refl _ _) | apply below_alloc | apply pw_below_drewN | apply below_drew1)) hb))); (try replace HSp := Aside0.mk (Kd.C_below HSp.out (below_step (by repeat (first | (with_reducible exact Below.refl _ _) | apply below_alloc | apply pw_below_drewN | apply below_drew1)) hb))); (try replace HCv := Aside0.mk (Kd.C_below HCv.out (below_step (by repeat (first | (with_reducible exact Below.refl _ _) | apply below_alloc | apply pw_below_drewN | apply below_drew1)) hb))); (try replace HCw := Aside0.mk (Kd.C_below HCw.out (below_step (by repeat (first | (with_reducible exact Below.refl _ _) | apply below_alloc | apply pw_below_drewN | apply below_drew1)) hb))); clear hb; (try clear x0 x1 x2 x3); (try clear lt_BX); have lt_BX := blk_lt BX.out; obtain ⟨x0, x1, x2, x3⟩ := cells4 BX.out) | (go_at_call 38; (with_reducible refine (convicted_at (HU.out.below (by repeat (first | (with_reducible exact Below.refl _ _) | apply below_alloc | apply pw_below_drewN | apply below_drew1)))).mono ?_); (rw [HCo.out]); rintro e w10 ⟨_, rfl, ⟨Ac, cc, rfl, hcc, hCv⟩, hb⟩; clear HU; replace HB := Aside0.mk (below_step (by repeat (first | (with_reducible exact HB.out) | apply below_alloc | apply pw_below_drewN | apply below_drew1 | refine below_set ?_ (by omega))) hb); replace BX := Aside0.mk (blk_below (g := w2.heap.size) (o := .cells #[.slice A0 lots.length c0, .slice A1 samples.length c1, .int .i64 spread, .slice Ar L.length cr] 26 (0, 0)) (by (with_reducible repeat (first | exact BX.out | refine blk_drewN ?_ _ | refine blk_drew ?_ | refine blk_alloc ?_ _))) hb); replace HX := Aside0.mk (HX.out.below (below_step (by repeat (first | (with_reducible exact Below.refl _ _) | apply below_alloc | apply pw_below_drewN | apply below_drew1)) hb)); (try replace HOff := Aside0.mk (Kd.C_below HOff.out (below_step (by repeat (first | (with_reducible exact Below.refl _ _) | apply below_alloc | apply pw_below_drewN | apply below_drew1)) hb))); (try replace HVal := Aside0.mk (Kd.C_below HVal.out (below_step (by repeat (first | (with_reducible exact Below.refl _ _) | apply below_alloc | apply pw_below_drewN | apply below_drew1)) hb))); (try replace HSp := Aside0.mk (Kd.C_below HSp.out (below_step (by repeat (first | (with_reducible exact Below.refl _ _) | apply below_alloc | apply pw_below_drewN | apply below_drew1)) hb))); (try replace HCv := Aside0.mk (Kd.C_below HCv.out (below_step (by repeat (first | (with_reducible exact Below.refl _ _) | apply below_alloc | apply pw_below_drewN | apply below_drew1)) hb))); (try replace HCw := Aside0.mk (Kd.C_below HCw.out (below_step (by repeat (first | (with_reducible exact Below.refl _ _) | apply below_alloc | apply pw_below_drewN | apply below_drew1)) hb))); clear hb; (try clear x0 x1 x2 x3); (try clear lt_BX); have lt_BX := blk_lt BX.out; obtain ⟨x0, x1, x2, x3⟩ := cells4 BX.out; have HCv := Aside0.mk hCv; clear hCv))
 clear x0 x1 x2 x3 lt_BX BX HX HThX HE HS HLe HCo HOk HW HCw HI HRd f1 f2
 go_loopw [20] (fun q wr => ∃ i : Int, 0 ≤ i ∧ i ≤ samples.length ∧ q = .int .i64 i ∧ Aside0 (Below w10.heap.size w10 wr)) (fun q _ => samples.length - (intOf q).toNat)
 case atStart => exact ⟨0, by omega, by omega, rfl, ⟨Below.refl _ _⟩⟩
 case round =>
  obtain ⟨i, i0, i1, rfl, HBr⟩ := hrel
  by_cases hlt : i < (samples.length : Int)
  ·have HBd := below_drew1 HBr.out
   obtain ⟨adV, hAV, hx0⟩ := Kd.at_int (Kd.C_below HVal.out HBd) i i0 (show i < (vals.length : Int) by omega)
   subst hAV
   obtain ⟨adS, hAS, hx1, hx2⟩ := at_T46 (Kd.C_below HSp.out HBd) i i0 (show i < (sp.length : Int) by omega)
   subst hAS
   clear HBd
   obtain ⟨g0, g1⟩ := HIn.out i i0 hlt
   have c0 : decide (rd vals i < (rd_T46 sp i).f0) = false := decide_eq_false (by omega)
   have c1 : decide ((rd_T46 sp i).f1 < rd vals i) = false := decide_eq_false (by omega)
   have p0 : (0 ≤ i) = True := eq_true i0
   have p1 : (i < (vals.length : Int)) = True := eq_true (by omega)
   have p2 : (i < (sp.length : Int)) = True := eq_true (by omega)
   clear g0 g1
   go_wp2
   refine start_ (n := 22) (S := fun w' => w'.cell? (adV.add i.toNat) = some (.int .i64 (rd vals i)) ∧ w'.cell? (adS.add (i.toNat * 2)) = some (.int .i64 ((rd_T46 sp i).f0)) ∧ w'.cell? ⟨(adS.add (i.toNat * 2)).block, (adS.add (i.toNat * 2)).off + 1, none⟩ = some (.int .i64 ((rd_T46 sp i).f1))) (ds := []) #[false, false, false, false, false, false, false, false, false, false, false, false, false, false, false, false, false, false, false, false, false, false] (by kernel_rfl) rfl rfl ⟨hx0, hx1, hx2⟩ (fun hHeld => ?_)
   refine with_tabW truth_b.tab14 truth_b.bits14 (fun HT_ HW_ => ?_)
   replace HBr := Aside0.mk (below_drew1 HBr.out)
   generalize wr.drew = ws at HBr hx0 hx1 hx2 hHeld ⊢
   refine pure_ (i := 0) (N := some 108) (v := ?_) (a' := ?_) #[true, false, false, false, false, false, false, false, false, false, false, false, false, false, false, false, false, false, false, false, false, false] rfl rfl (any_of HT_.out (by kernel_rfl)) (fun _ _ _ h => h) (Or.inl ⟨by rfl, ?_⟩) ?_ ?_
   rotate_left
   ·intro w'
    go_simp
    with_reducible rfl
   rotate_left
   ·simp only [Act.put, List.setIfInBounds_toArray, List.set_cons_zero, List.set_cons_succ, i64_w, i32_w]
    rfl
   refine pure_ (i := 1) (N := some 109) (v := ?_) (a' := ?_) #[true, true, false, false, false, false, false, false, false, false, false, false, false, false, false, false, false, false, false, false, false, false] rfl rfl (any_of HT_.out (by kernel_rfl)) (fun _ _ _ h => h) (Or.inl ⟨by rfl, ?_⟩) ?_ ?_
   rotate_left
   ·intro w'
    go_simp
    with_reducible rfl
   rotate_left
   ·simp only [Act.put, List.setIfInBounds_toArray, List.set_cons_zero, List.set_cons_succ, i64_w, i32_w]
    rfl
   refine pure_ (i := 2) (N := some 110) (v := ?_) (a' := ?_) #[true, true, true, false, false, false, false, false, false, false, false, false, false, false, false, false, false, false, false, false, false, false] rfl rfl (any_of HT_.out (by kernel_rfl)) (fun _ _ _ h => h) (Or.inl ⟨by rfl, ?_⟩) ?_ ?_
   rotate_left
   ·intro w'
    go_simp
    with_reducible rfl
   rotate_left
   ·simp only [Act.put, List.setIfInBounds_toArray, List.set_cons_zero, List.set_cons_succ, i64_w, i32_w]
    rfl
   refine pure_ (i := 4) (N := some 112) (v := ?_) (a' := ?_) #[true, true, true, false, true, false, false, false, false, false, false, false, false, false, false, false, false, false, false, false, false, false] rfl rfl (any_of HT_.out (by kernel_rfl)) (fun _ _ _ h => h) (Or.inl ⟨by rfl, ?_⟩) ?_ ?_
   rotate_left
   ·intro w'
    go_simp
    with_reducible rfl
   rotate_left
   ·simp only [Act.put, List.setIfInBounds_toArray, List.set_cons_zero, List.set_cons_succ, i64_w, i32_w]
    rfl
   refine pure_ (i := 5) (N := some 113) (v := ?_) (a' := ?_) #[true, true, true, false, true, true, false, false, false, false, false, false, false, false, false, false, false, false, false, false, false, false] rfl rfl (any_of HT_.out (by kernel_rfl)) (fun _ _ _ h => h) (Or.inl ⟨by rfl, ?_⟩) ?_ ?_
   rotate_left
   ·intro w'
    go_simp
    with_reducible rfl
   rotate_left
   ·simp only [Act.put, List.setIfInBounds_toArray, List.set_cons_zero, List.set_cons_succ, i64_w, i32_w]
    rfl
   refine pure_ (i := 6) (N := some 114) (v := ?_) (a' := ?_) #[true, true, true, false, true, true, true, false, false, false, false, false, false, false, false, false, false, false, false, false, false, false] rfl rfl (any_of HT_.out (by kernel_rfl)) (fun _ _ _ h => h) (Or.inl ⟨by rfl, ?_⟩) ?_ ?_
   rotate_left
   ·intro w'
    go_simp
    with_reducible rfl
   rotate_left
   ·simp only [Act.put, List.setIfInBounds_toArray, List.set_cons_zero, List.set_cons_succ, i64_w, i32_w]
    rfl
   refine pure_ (i := 7) (N := some 115) (v := ?_) (a' := ?_) #[true, true, true, false, true, true, true, true, false, false, false, false, false, false, false, false, false, false, false, false, false, false] rfl rfl (any_of HT_.out (by kernel_rfl)) (fun _ _ _ h => h) (Or.inl ⟨by rfl, ?_⟩) ?_ ?_
   rotate_left
   ·intro w'
    go_simp
    with_reducible rfl
   rotate_left
   ·simp only [Act.put, List.setIfInBounds_toArray, List.set_cons_zero, List.set_cons_succ, i64_w, i32_w]
    rfl
   refine take_ (i := 3) (N := some 111) (v := ?_) (a' := ?_) #[true, true, true, true, true, true, true, true, false, false, false, false, false, false, false, false, false, false, false, false, false, false] rfl rfl (take_ofW HT_.out HW_.out (by kernel_rfl)) (fun _ _ _ h => h) (Or.inl ⟨by rfl, ?_⟩) hHeld ?_ ?_
   rotate_left
   ·rintro w' ⟨s0, s1, s2⟩
    go_simp
    with_reducible rfl
   rotate_left
   ·simp only [Act.put, List.setIfInBounds_toArray, List.set_cons_zero, List.set_cons_succ, i64_w, i32_w]
    rfl
   refine take_ (i := 8) (N := some 116) (v := ?_) (a' := ?_) #[true, true, true, true, true, true, true, true, true, false, false, false, false, false, false, false, false, false, false, false, false, false] rfl rfl (take_ofW HT_.out HW_.out (by kernel_rfl)) (fun _ _ _ h => h) (Or.inl ⟨by rfl, ?_⟩) hHeld ?_ ?_
   rotate_left
   ·rintro w' ⟨s0, s1, s2⟩
    go_simp
    with_reducible rfl
   rotate_left
   ·simp only [Act.put, List.setIfInBounds_toArray, List.set_cons_zero, List.set_cons_succ, i64_w, i32_w]
    rfl
   refine pure_ (i := 9) (N := some 117) (v := ?_) (a' := ?_) #[true, true, true, true, true, true, true, true, true, true, false, false, false, false, false, false, false, false, false, false, false, false] rfl rfl (any_of HT_.out (by kernel_rfl)) (fun _ _ _ h => h) (Or.inl ⟨by rfl, ?_⟩) ?_ ?_
   rotate_left
   ·intro w'
    go_simp
    with_reducible rfl
   rotate_left
   ·simp only [Act.put, List.setIfInBounds_toArray, List.set_cons_zero, List.set_cons_succ, i64_w, i32_w]
    rfl
   refine pure_ (i := 10) (N := some 118) (v := ?_) (a' := ?_) #[true, true, true, true, true, true, true, true, true, true, true, false, false, false, false, false, false, false, false, false, false, false] rfl rfl (any_of HT_.out (by kernel_rfl)) (fun _ _ _ h => h) (Or.inl ⟨by rfl, ?_⟩) ?_ ?_
   rotate_left
   ·intro w'
    go_simp
    with_reducible rfl
   rotate_left
   ·simp only [Act.put, List.setIfInBounds_toArray, List.set_cons_zero, List.set_cons_succ, i64_w, i32_w]
    rfl
   refine pure_ (i := 11) (N := some 119) (v := ?_) (a' := ?_) #[true, true, true, true, true, true, true, true, true, true, true, true, false, false, false, false, false, false, false, false, false, false] rfl rfl (any_of HT_.out (by kernel_rfl)) (fun _ _ _ h => h) (Or.inl ⟨by rfl, ?_⟩) ?_ ?_
   rotate_left
   ·intro w'
    go_simp
    with_reducible rfl
   rotate_left
   ·simp only [Act.put, List.setIfInBounds_toArray, List.set_cons_zero, List.set_cons_succ, i64_w, i32_w]
    rfl
   refine pure_ (i := 12) (N := some 120) (v := ?_) (a' := ?_) #[true, true, true, true, true, true, true, true, true, true, true, true, true, false, false, false, false, false, false, false, false, false] rfl rfl (any_of HT_.out (by kernel_rfl)) (fun _ _ _ h => h) (Or.inl ⟨by rfl, ?_⟩) ?_ ?_
   rotate_left
   ·intro w'
    go_simp
    with_reducible rfl
   rotate_left
   ·simp only [Act.put, List.setIfInBounds_toArray, List.set_cons_zero, List.set_cons_succ, i64_w, i32_w]
    rfl
   refine pure_ (i := 13) (N := some 121) (v := ?_) (a' := ?_) #[true, true, true, true, true, true, true, true, true, true, true, true, true, true, false, false, false, false, false, false, false, false] rfl rfl (any_of HT_.out (by kernel_rfl)) (fun _ _ _ h => h) (Or.inl ⟨by rfl, ?_⟩) ?_ ?_
   rotate_left
   ·intro w'
    go_simp
    with_reducible rfl
   rotate_left
   ·simp only [Act.put, List.setIfInBounds_toArray, List.set_cons_zero, List.set_cons_succ, i64_w, i32_w]
    rfl
   refine pure_ (i := 15) (N := some 123) (v := ?_) (a' := ?_) #[true, true, true, true, true, true, true, true, true, true, true, true, true, true, false, true, false, false, false, false, false, false] rfl rfl (any_of HT_.out (by kernel_rfl)) (fun _ _ _ h => h) (Or.inl ⟨by rfl, ?_⟩) ?_ ?_
   rotate_left
   ·intro w'
    go_simp
    with_reducible rfl
   rotate_left
   ·simp only [Act.put, List.setIfInBounds_toArray, List.set_cons_zero, List.set_cons_succ, i64_w, i32_w]
    rfl
   refine pure_ (i := 16) (N := some 124) (v := ?_) (a' := ?_) #[true, true, true, true, true, true, true, true, true, true, true, true, true, true, false, true, true, false, false, false, false, false] rfl rfl (any_of HT_.out (by kernel_rfl)) (fun _ _ _ h => h) (Or.inl ⟨by rfl, ?_⟩) ?_ ?_
   rotate_left
   ·intro w'
    go_simp
    with_reducible rfl
   rotate_left
   ·simp only [Act.put, List.setIfInBounds_toArray, List.set_cons_zero, List.set_cons_succ, i64_w, i32_w]
    rfl
   refine pure_ (i := 17) (N := some 125) (v := ?_) (a' := ?_) #[true, true, true, true, true, true, true, true, true, true, true, true, true, true, false, true, true, true, false, false, false, false] rfl rfl (any_of HT_.out (by kernel_rfl)) (fun _ _ _ h => h) (Or.inl ⟨by rfl, ?_⟩) ?_ ?_
   rotate_left
   ·intro w'
    go_simp
    with_reducible rfl
   rotate_left
   ·simp only [Act.put, List.setIfInBounds_toArray, List.set_cons_zero, List.set_cons_succ, i64_w, i32_w]
    rfl
   refine pure_ (i := 18) (N := some 126) (v := ?_) (a' := ?_) #[true, true, true, true, true, true, true, true, true, true, true, true, true, true, false, true, true, true, true, false, false, false] rfl rfl (any_of HT_.out (by kernel_rfl)) (fun _ _ _ h => h) (Or.inl ⟨by rfl, ?_⟩) ?_ ?_
   rotate_left
   ·intro w'
    go_simp
    with_reducible rfl
   rotate_left
   ·simp only [Act.put, List.setIfInBounds_toArray, List.set_cons_zero, List.set_cons_succ, i64_w, i32_w]
    rfl
   refine take_ (i := 14) (N := some 122) (v := ?_) (a' := ?_) #[true, true, true, true, true, true, true, true, true, true, true, true, true, true, true, true, true, true, true, false, false, false] rfl rfl (take_ofW HT_.out HW_.out (by kernel_rfl)) (fun _ _ _ h => h) (Or.inl ⟨by rfl, ?_⟩) hHeld ?_ ?_
   rotate_left
   ·rintro w' ⟨s0, s1, s2⟩
    go_simp
    with_reducible rfl
   rotate_left
   ·simp only [Act.put, List.setIfInBounds_toArray, List.set_cons_zero, List.set_cons_succ, i64_w, i32_w]
    rfl
   refine take_ (i := 19) (N := some 127) (v := ?_) (a' := ?_) #[true, true, true, true, true, true, true, true, true, true, true, true, true, true, true, true, true, true, true, true, false, false] rfl rfl (take_ofW HT_.out HW_.out (by kernel_rfl)) (fun _ _ _ h => h) (Or.inl ⟨by rfl, ?_⟩) hHeld ?_ ?_
   rotate_left
   ·rintro w' ⟨s0, s1, s2⟩
    go_simp
    with_reducible rfl
   rotate_left
   ·simp only [Act.put, List.setIfInBounds_toArray, List.set_cons_zero, List.set_cons_succ, i64_w, i32_w]
    rfl
   refine pure_ (i := 20) (N := some 128) (v := ?_) (a' := ?_) #[true, true, true, true, true, true, true, true, true, true, true, true, true, true, true, true, true, true, true, true, true, false] rfl rfl (any_of HT_.out (by kernel_rfl)) (fun _ _ _ h => h) (Or.inl ⟨by rfl, ?_⟩) ?_ ?_
   rotate_left
   ·intro w'
    go_simp
    with_reducible rfl
   rotate_left
   ·simp only [Act.put, List.setIfInBounds_toArray, List.set_cons_zero, List.set_cons_succ, i64_w, i32_w]
    rfl
   refine pure_ (i := 21) (N := some 129) (v := ?_) (a' := ?_) #[true, true, true, true, true, true, true, true, true, true, true, true, true, true, true, true, true, true, true, true, true, true] rfl rfl (any_of HT_.out (by kernel_rfl)) (fun _ _ _ h => h) (Or.inl ⟨by rfl, ?_⟩) ?_ ?_
   rotate_left
   ·intro w'
    go_simp
    with_reducible rfl
   rotate_left
   ·simp only [Act.put, List.setIfInBounds_toArray, List.set_cons_zero, List.set_cons_succ, i64_w, i32_w]
    rfl
   refine done_ (done_of HT_.out (by kernel_rfl)) ?_
   go_wp2
   go_roundw
   case rel => exact ⟨i + 1, by omega, by omega, by go_num, ⟨by repeat (first | (with_reducible exact HBr.out) | apply below_alloc | apply pw_below_drewN | apply below_drew1)⟩⟩
   case measure => simp [intOf]; omega
  ·have p2 : decide (i < (sp.length : Int)) = false := decide_eq_false (by omega)
   go_wp2
   clear p2
   go_loopw [21] (fun q w2' => ∃ i : Int, 0 ≤ i ∧ i ≤ cl2.length ∧ q = .int .i64 i ∧ Aside0 (Below w10.heap.size w10 w2')) (fun q _ => cl2.length - (intOf q).toNat)
   case atStart => exact ⟨0, by omega, by omega, rfl, HBr⟩
   case round =>
    clear HBr
    obtain ⟨i, i0, i1, rfl, HBr⟩ := hrel
    by_cases hlt : i < (cl2.length : Int)
    ·have c0 : decide (i < (cl2.length : Int)) = true := decide_eq_true hlt
     by_cases hl : ll.length = off.length
     ·have c1 : ((ll.length : Int) == (off.length : Int)) = true := beq_iff_eq.2 (by omega)
      have hmem := HCm.out hl i i0 hlt
      obtain ⟨adC, hAC, hy⟩ := Kd.at_int (Kd.C_below HCv.out HBr.out) i i0 hlt
      subst hAC
      have p0 : (0 ≤ i) = True := eq_true i0
      clear hl
      go_wp2_with (first | (go_at_call 39; (with_reducible refine (has_at Ao co off (rd cl2 i) (Kd.C_below HOff.out (by repeat (first | (with_reducible exact HBr.out) | apply below_alloc | apply pw_below_drewN | apply below_drew1 | refine below_set ?_ (by omega)))) hco (by omega)).mono ?_); (rw [hmem]); rintro e w12 ⟨rfl, hb⟩; replace HBr := Aside0.mk (below_step (by repeat (first | (with_reducible exact HBr.out) | apply below_alloc | apply pw_below_drewN | apply below_drew1)) hb); clear hb))
      go_roundw
      case rel => exact ⟨i + 1, by omega, by omega, by go_num, HBr⟩
      case measure => simp [intOf]; omega
     ·have c1 : ((ll.length : Int) == (off.length : Int)) = false := beq_eq_false_iff_ne.2 (by omega)
      clear hl
      go_wp2_with (first | (go_at_call 18; (with_reducible refine (wakes_any _).mono ?_); rintro e w13 ⟨rfl, hb⟩; replace HBr := Aside0.mk (below_step (by repeat (first | (with_reducible exact HBr.out) | apply below_alloc | apply pw_below_drewN | apply below_drew1 | refine below_set ?_ (by omega))) hb); clear hb))
      go_ret
      exact ⟨rfl, below_step HB.out HBr.out⟩
    ·have c0 : decide (i < (cl2.length : Int)) = false := decide_eq_false hlt
     go_wp2_with (first | (go_at_call 18; (with_reducible refine (wakes_any _).mono ?_); rintro e w13 ⟨rfl, hb⟩; replace HBr := Aside0.mk (below_step (by repeat (first | (with_reducible exact HBr.out) | apply below_alloc | apply pw_below_drewN | apply below_drew1 | refine below_set ?_ (by omega))) hb); clear hb))
     go_ret
     exact ⟨rfl, below_step HB.out HBr.out⟩
end Go.Proofs.Ytcpbhklaffgokaa.Q
namespace Go.Proofs.Ytcpbhklaffgokaa.Q
open Go.RowKit Go.Proofs.YtcpbhklaffgokaaW.PrintWords Go.Proofs.YtcpbhklaffgokaaW.PrintLast Go.Proofs.YtcpbhklaffgokaaW.PrintMore
set_option linter.unusedVariables false
set_option linter.unusedSimpArgs false
theorem words_ok {words : List Int} (hm : words.length ≤ 9223372036854775807) (h : ∀ x ∈ words, (Lit.int .u16 x).wf = true) : WordsOk words := ⟨hm, fun x hx => u16_wf (h x hx)⟩
end Go.Proofs.Ytcpbhklaffgokaa.Q
namespace Go.Proofs.Ytcpbhklaffgokaa.Q
open Go.RowKit Go.Proofs.YtcpbhklaffgokaaW.PrintWords Go.Proofs.YtcpbhklaffgokaaW.PrintLast Go.Proofs.YtcpbhklaffgokaaW.PrintMore
set_option linter.unusedVariables false
set_option linter.unusedSimpArgs false
theorem conv_le {lots : List S46} {samples : List Int} {spread : Int} {labs : List S75} (hok : RoundOk lots samples spread labs) : (convF lots samples spread labs).1.length ≤ (leastF lots samples spread labs).1.length := by
 have hk := check_of_ok hok
 unfold convF leastF
 rw [if_pos hk, if_pos hk]
 split
 ·exact Nat.zero_le _
 ·unfold convL
  exact List.length_filter_le _ _
theorem RoundTruth_walk (A0 : Option Addr) (c0 : Nat) (lots : List S44) (A1 : Option Addr) (c1 : Nat) (samples : List Int) (spread : Int) (A3 : Option Addr) (c3 : Nat) (labs : List S62) (Aw : Option Addr) (cw : Nat) (words : List Int) (bits shift : Int) (W : World) {v : Value} (hi : In26 W v A0 c0 lots A1 c1 samples spread A3 c3 labs)
  (hC : (Kd.int .u16).C W Aw words.length words) (hc : words.length ≤ cw) (hm : words.length ≤ 9223372036854775807) (hw : ∀ x ∈ words, (Lit.int .u16 x).wf = true) (wl : (Lit.int .u8 bits).wf = true) (ws : (Lit.int .i16 shift).wf = true) :
  Calls Try.prog 15 #[.agg #[.slice A0 lots.length c0, .slice A1 samples.length c1, .int .i64 spread, .slice A3 labs.length c3], .slice Aw words.length cw, .int .u8 bits, .int .i16 shift] W fun e W' => e = .returned (.bool true) ∧ Below W.heap.size W W' := by
 obtain ⟨b, hb, ht⟩ := ready_ev lots samples spread labs hi.sz
 cases b with
 | false => exact truth_no hi Aw cw words bits shift hb
 | true =>
  obtain ⟨hth, hok⟩ := ht rfl
  have hwd := words_ok hm hw
  obtain ⟨b0, b1⟩ := u8_wf wl
  obtain ⟨s0, s1⟩ := i16_wf ws
  have hokX := read_ok (words := words) (bits := bits) (shift := shift) hok
  have hlX : ((readF lots samples spread labs words bits shift labs.length).map m75).length = labs.length := by rw [List.length_map, readF_length]
  have hr : risingB ((readF lots samples spread labs words bits shift labs.length).map m75).length (chosenF labs.length bits) = true := by rw [hlX]; exact chosenF_rising _ _
  have H : ∀ j, j < labs.length → offOf (chosenF labs.length bits) j = false → bitB bits (j : Int) = false := fun j hj ho => by rwa [off_chosen _ _ j hj] at ho
  have hcan : canF (lots.map m46) samples spread ((readF lots samples spread labs words bits shift labs.length).map m75) (offOf (chosenF labs.length bits)) = true :=
   truth_can hok hwd _ (-1) 0 fun j hj ho => ⟨fun h => by omega, fun _ => H j hj ho⟩
  have he := explainsF_ok hokX hr
  rw [hcan] at he
  have hs := spansR_ok hokX hr
  rw [if_pos hcan] at hs
  have hsl := spans_length hokX _ _ _ hcan
  have hp : (chosenF labs.length bits).Pairwise (· < ·) := List.Pairwise.filter _ (upto_pairwise _)
  have hmem : ∀ x ∈ chosenF labs.length bits, (0 : Int) ≤ x ∧ x < ((readF lots samples spread labs words bits shift labs.length).map m75).length := fun x hx => by
   obtain ⟨a, b, -⟩ := (chosenF_mem _ _ _).1 hx
   rw [hlX]
   exact ⟨a, b⟩
  obtain ⟨q0, q1, q2, q3⟩ := least_le hokX (chosenF labs.length bits) hp hmem (by rw [hlX]; exact chosenF_length _ _) hcan
  have hcl := conv_le hokX
  have hol := chosenF_length labs.length bits
  have hin : ∀ i : Int, 0 ≤ i → i < samples.length → (rd_T46 (spansF (lots.map m46) samples spread ((readF lots samples spread labs words bits shift labs.length).map m75) (offOf (chosenF labs.length bits)) (-1) 0).1 i).f0 ≤ rd (trueF lots samples spread words) i ∧ rd (trueF lots samples spread words) i ≤ (rd_T46 (spansF (lots.map m46) samples spread ((readF lots samples spread labs words bits shift labs.length).map m75) (offOf (chosenF labs.length bits)) (-1) 0).1 i).f1 := by
   intro i h0 h1
   obtain ⟨j, rfl⟩ : ∃ j : Nat, i = (j : Int) := ⟨i.toNat, by omega⟩
   have := truth_span (bits := bits) (shift := shift) hok hwd _ H j (by omega)
   rw [trueF_get j (by omega)]
   exact this
  obtain ⟨ll, hll⟩ : ∃ l, (leastF (lots.map m46) samples spread ((readF lots samples spread labs words bits shift labs.length).map m75)).1 = l := ⟨_, rfl⟩
  obtain ⟨cl, hcl2⟩ : ∃ l, (convF (lots.map m46) samples spread ((readF lots samples spread labs words bits shift labs.length).map m75)).1 = l := ⟨_, rfl⟩
  rw [hll] at q1 q3 hcl
  rw [hcl2] at q3 hcl
  have hle : leastF (lots.map m46) samples spread ((readF lots samples spread labs words bits shift labs.length).map m75) = (ll, 0) := Prod.ext hll q0
  have hcm : ll.length = (chosenF labs.length bits).length → ∀ i : Int, 0 ≤ i → i < cl.length → (chosenF labs.length bits).contains (rd cl i) = true := fun h i h0 h1 => by
   have := q3 h (rd cl i) (by
    unfold rd
    rw [List.getD_eq_getElem?_getD, List.getElem?_eq_getElem (show i.toNat < cl.length by omega)]
    exact List.getElem_mem _)
   simpa using this
  rcases q2 with q2 | q2
  ·exact truth_a hi Aw cw words hC hc hwd bits shift b0 b1 (by omega) (by omega) hb hth hok _ _ rfl rfl trueF_length hol he _ hs hsl hin ll cl hle q1 (Prod.ext hcl2 q2) (by omega) hcm
  ·exact truth_b hi Aw cw words hC hc hwd bits shift b0 b1 (by omega) (by omega) hb hth hok _ _ rfl rfl trueF_length hol he _ hs hsl hin ll cl hle q1 (Prod.ext hcl2 q2) (by omega) hcm
end Go.Proofs.Ytcpbhklaffgokaa.Q
