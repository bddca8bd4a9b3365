import Derived.Test.YtcpbhklaffgokaaC9x11
namespace Go.Proofs.Ytcpbhklaffgokaa.Q
open Go.RowKit Go.Proofs.YtcpbhklaffgokaaW.PrintWords Go.Proofs.YtcpbhklaffgokaaW.PrintLast Go.Proofs.YtcpbhklaffgokaaW.PrintMore
set_option linter.unusedVariables false
set_option linter.unusedSimpArgs false
def wordF (words : List Int) (at_ : Int) : Int := if words.length = 0 then 0 else rd words (Int.tmod at_ words.length)
def WordsOk (words : List Int) : Prop := words.length ≤ 9223372036854775807 ∧ ∀ x ∈ words, 0 ≤ x ∧ x < 65536
theorem wordF_bd {words : List Int} (h : WordsOk words) (at_ : Int) (h0 : 0 ≤ at_) : 0 ≤ wordF words at_ ∧ wordF words at_ < 65536 := by
 unfold wordF
 by_cases hz : words.length = 0
 ·rw [if_pos hz]; omega
 ·rw [if_neg hz]
  have h1 := Int.tmod_nonneg (words.length : Int) h0
  have h2 := Int.tmod_lt_of_pos at_ (show (0 : Int) < words.length by omega)
  refine h.2 _ ?_
  unfold rd
  rw [List.getD_eq_getElem?_getD, List.getElem?_eq_getElem (show (Int.tmod at_ words.length).toNat < words.length by omega)]
  exact List.getElem_mem _
theorem word_eq {words : List Int} (h : WordsOk words) (at_ : Int) (h0 : 0 ≤ at_) : tensilelaw08_word.f words at_ = some (wordF words at_) := by
 have hb := wordF_bd h at_ h0
 unfold tensilelaw08_word.f
 unfold wordF at hb ⊢
 by_cases hz : words.length = 0
 ·rw [if_pos (by omega), if_pos hz]
 ·rw [if_neg hz] at hb
  have h1 := Int.tmod_nonneg (words.length : Int) h0
  have h2 := Int.tmod_lt_of_pos at_ (show (0 : Int) < words.length by omega)
  rw [if_neg (by omega), if_pos h1, if_pos h2, if_neg hz, wr _ (by omega) (by omega)]
def trueV (lots : List S44) (samples : List Int) (spread : Int) (words : List Int) (i : Nat) : Int :=
 (rd_T44 lots (samples.getD i 0)).f0 + wordF words (samples.getD i 0) % ((rd_T44 lots (samples.getD i 0)).f1 - (rd_T44 lots (samples.getD i 0)).f0 + 1) - spread + wordF words (7 * (i : Int) + 3) % (2 * spread + 1)
def lotW (lots : List S44) (words : List Int) (L : Int) : Int := (rd_T44 lots L).f0 + wordF words L % ((rd_T44 lots L).f1 - (rd_T44 lots L).f0 + 1)
def trueF (lots : List S44) (samples : List Int) (spread : Int) (words : List Int) : List Int := (List.range samples.length).map (trueV lots samples spread words)
section
variable {lots : List S44} {samples : List Int} {spread : Int} {labs : List S62} {words : List Int}
theorem lot_at (hok : RoundOk (lots.map m46) samples spread (labs.map m75)) (i : Nat) (hi : i < samples.length) : 0 ≤ samples.getD i 0 ∧ samples.getD i 0 < lots.length ∧ 0 ≤ (rd_T44 lots (samples.getD i 0)).f0 ∧ (rd_T44 lots (samples.getD i 0)).f0 ≤ (rd_T44 lots (samples.getD i 0)).f1 ∧ (rd_T44 lots (samples.getD i 0)).f1 ≤ 1000 := by
 obtain ⟨s0, s1⟩ := smp_lt hok i hi
 rw [List.length_map] at s1
 have := lot_ok lots samples spread labs hok (samples.getD i 0).toNat s1
 rw [Int.toNat_of_nonneg s0] at this
 exact ⟨s0, by omega, this⟩
theorem lotW_in (hok : RoundOk (lots.map m46) samples spread (labs.map m75)) (hw : WordsOk words) (L : Nat) (hL : L < lots.length) : (rd_T44 lots (L : Int)).f0 ≤ lotW lots words (L : Int) ∧ lotW lots words (L : Int) ≤ (rd_T44 lots (L : Int)).f1 := by
 have hl := lot_ok lots samples spread labs hok L hL
 have hb := wordF_bd hw (L : Int) (by omega)
 unfold lotW
 have h1 := Int.emod_nonneg (wordF words (L : Int)) (show (rd_T44 lots (L : Int)).f1 - (rd_T44 lots (L : Int)).f0 + 1 ≠ 0 by omega)
 have h2 := Int.emod_lt_of_pos (wordF words (L : Int)) (show 0 < (rd_T44 lots (L : Int)).f1 - (rd_T44 lots (L : Int)).f0 + 1 by omega)
 omega
theorem trueV_near (hok : RoundOk (lots.map m46) samples spread (labs.map m75)) (hw : WordsOk words) (i : Nat) (hi : i < samples.length) : trueV lots samples spread words i - spread ≤ lotW lots words (samples.getD i 0) ∧ lotW lots words (samples.getD i 0) ≤ trueV lots samples spread words i + spread := by
 have hs := hok.sp0
 have hb := wordF_bd hw (7 * (i : Int) + 3) (by omega)
 have h1 := Int.emod_nonneg (wordF words (7 * (i : Int) + 3)) (show 2 * spread + 1 ≠ 0 by omega)
 have h2 := Int.emod_lt_of_pos (wordF words (7 * (i : Int) + 3)) (show 0 < 2 * spread + 1 by omega)
 have e : trueV lots samples spread words i = lotW lots words (samples.getD i 0) - spread + wordF words (7 * (i : Int) + 3) % (2 * spread + 1) := rfl
 omega
theorem trueV_bd (hok : RoundOk (lots.map m46) samples spread (labs.map m75)) (hw : WordsOk words) (i : Nat) (hi : i < samples.length) : -100 ≤ trueV lots samples spread words i ∧ trueV lots samples spread words i ≤ 1100 := by
 obtain ⟨s0, s1, a, b, c⟩ := lot_at hok i hi
 have h1 := trueV_near hok hw i hi
 have h2 := lotW_in hok hw (samples.getD i 0).toNat (by omega)
 rw [Int.toNat_of_nonneg s0] at h2
 have := hok.sp1
 omega
theorem trueF_length : (trueF lots samples spread words).length = samples.length := by unfold trueF; rw [List.length_map, List.length_range]
theorem trueF_get (i : Nat) (hi : i < samples.length) : rd (trueF lots samples spread words) (i : Int) = trueV lots samples spread words i := by
 unfold rd trueF
 rw [Int.toNat_natCast, List.getD_eq_getElem?_getD, List.getElem?_map, List.getElem?_range hi]
 rfl
theorem True_ev (hok : RoundOk (lots.map m46) samples spread (labs.map m75)) (hw : WordsOk words) : Ev (fun k => tensilelaw08_True.f k lots samples spread labs words) (trueF lots samples spread words) := by
 have h8 := hok.s8
 have key : ∀ d i : Nat, samples.length - i = d → i ≤ samples.length → Ev (fun k => tensilelaw08_True.l0 k words ((List.range i).map (trueV lots samples spread words)) (i : Int) lots samples spread labs) (trueF lots samples spread words) := by
  intro d
  induction d with
  | zero =>
   intro i hd hi
   obtain rfl : i = samples.length := by omega
   exact Ev.step (fun k => by simp only [tensilelaw08_True.l0]; rw [if_neg (by omega)]; rfl) (Ev.now _)
  | succ d ih =>
   intro i hd hi
   have hlt : i < samples.length := by omega
   have h := ih (i + 1) (by omega) (by omega)
   rw [← wr1 i _ hlt (by omega), List.range_succ, List.map_append, List.map_singleton] at h
   obtain ⟨s0, s1, a, b, c⟩ := lot_at hok i hlt
   have hp := hok.sp0
   have hp1 := hok.sp1
   have hr : rd samples (i : Int) = samples.getD i 0 := rd_eq samples i
   have b1 := wordF_bd hw (samples.getD i 0) s0
   have b2 := wordF_bd hw (7 * (i : Int) + 3) (by omega)
   have w1 : wrap64 (wrap64 (7 * (i : Int)) + 3) = 7 * (i : Int) + 3 := by rw [wr (7 * (i : Int)) (by omega) (by omega), wr _ (by omega) (by omega)]
   have w2 : wrap64 (wrap64 ((rd_T44 lots (samples.getD i 0)).f1 - (rd_T44 lots (samples.getD i 0)).f0) + 1) = (rd_T44 lots (samples.getD i 0)).f1 - (rd_T44 lots (samples.getD i 0)).f0 + 1 := by rw [wr (_ - _) (by omega) (by omega), wr _ (by omega) (by omega)]
   have w3 : wrap64 (wrap64 (2 * spread) + 1) = 2 * spread + 1 := by rw [wr (2 * spread) (by omega) (by omega), wr _ (by omega) (by omega)]
   have m1 := Int.emod_nonneg (wordF words (samples.getD i 0)) (show (rd_T44 lots (samples.getD i 0)).f1 - (rd_T44 lots (samples.getD i 0)).f0 + 1 ≠ 0 by omega)
   have m2 := Int.emod_lt_of_pos (wordF words (samples.getD i 0)) (show 0 < (rd_T44 lots (samples.getD i 0)).f1 - (rd_T44 lots (samples.getD i 0)).f0 + 1 by omega)
   have m3 := Int.emod_nonneg (wordF words (7 * (i : Int) + 3)) (show 2 * spread + 1 ≠ 0 by omega)
   have m4 := Int.emod_lt_of_pos (wordF words (7 * (i : Int) + 3)) (show 0 < 2 * spread + 1 by omega)
   have fin : wrap64 (wrap64 (wrap64 ((rd_T44 lots (samples.getD i 0)).f0 + Int.tmod (wordF words (samples.getD i 0)) ((rd_T44 lots (samples.getD i 0)).f1 - (rd_T44 lots (samples.getD i 0)).f0 + 1)) - spread) + Int.tmod (wordF words (7 * (i : Int) + 3)) (2 * spread + 1)) = trueV lots samples spread words i := by
    rw [Int.tmod_eq_emod_of_nonneg b1.1, Int.tmod_eq_emod_of_nonneg b2.1]
    unfold trueV
    generalize wordF words (samples.getD i 0) % ((rd_T44 lots (samples.getD i 0)).f1 - (rd_T44 lots (samples.getD i 0)).f0 + 1) = p at m1 m2 ⊢
    generalize wordF words (7 * (i : Int) + 3) % (2 * spread + 1) = q at m3 m4 ⊢
    rw [wr ((rd_T44 lots (samples.getD i 0)).f0 + p) (by omega) (by omega), wr ((rd_T44 lots (samples.getD i 0)).f0 + p - spread) (by omega) (by omega), wr _ (by omega) (by omega)]
   refine Ev.step (fun k => by simp only [tensilelaw08_True.l0]; rw [if_pos (by omega), if_pos (by omega), hr, if_pos s0, if_pos (by omega), word_eq hw _ s0, Option.bind_some, w2, if_neg (by omega), w1, word_eq hw _ (by omega), Option.bind_some, w3, if_neg (by omega), if_pos (by rw [List.length_map, List.length_range]; omega), fin]) ?_
   exact h
 have h := key samples.length 0 (by omega) (by omega)
 exact h
end
end Go.Proofs.Ytcpbhklaffgokaa.Q
