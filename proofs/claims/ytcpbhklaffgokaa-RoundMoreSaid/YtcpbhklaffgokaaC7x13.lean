import Derived.Laws.BitsAllLaws
import Derived.Test.YtcpbhklaffgokaaC7x12
namespace Go.Proofs.Ytcpbhklaffgokaa.Q
open Go.RowKit Go.Proofs.YtcpbhklaffgokaaW.PrintWords Go.Proofs.YtcpbhklaffgokaaW.PrintLast Go.Proofs.YtcpbhklaffgokaaW.PrintMore
set_option linter.unusedVariables false
set_option linter.unusedSimpArgs false
theorem or_bit {a b : Int} (ha : 0 ≤ a ∧ a < 256) (hb : 0 ≤ b ∧ b < 256) (j : Nat) (hj : j ≤ 8) (h : bitB a (j : Int) = true) : bitB (Go.bits .or .u8 a b) (j : Int) = true := by
 obtain ⟨x, rfl⟩ := Int.eq_ofNat_of_zero_le ha.1
 obtain ⟨y, rfl⟩ := Int.eq_ofNat_of_zero_le hb.1
 rw [u8_or_nat x y (by omega) (by omega)]
 rw [bitB_test _ (by omega) _ hj] at h
 have hlt : x ||| y < 256 := Nat.or_lt_two_pow (n := 8) (by omega) (by omega)
 rw [bitB_test _ hlt _ hj, Nat.testBit_or, h, Bool.true_or]
theorem all_bit (j : Nat) (hj : j < 6) : bitB 255 (j : Int) = true := by
 rw [show (255 : Int) = ((255 : Nat) : Int) from rfl, bitB_test 255 (by omega) j (by omega)]
 match j, hj with
 | 0, _ | 1, _ | 2, _ | 3, _ | 4, _ | 5, _ => decide
theorem RoundMore_pure (lots : List S44) (samples : List Int) (spread : Int) (labs : List S62) (bits more : Int) (hb : 0 ≤ bits ∧ bits < 256) (hm : 0 ≤ more ∧ more < 256) (hs : Sz lots samples labs) : ∃ k, tensilelaw08_RoundMore.f k lots samples spread labs bits more = some true := by
 refine Ev_rounds (g := fun k => tensilelaw08_RoundMore.f k lots samples spread labs bits more) ?_
 unfold tensilelaw08_RoundMore.f
 obtain ⟨b, hb', ht⟩ := ready_ev lots samples spread labs hs
 refine Ev.bind hb' ?_
 cases b with
 | false => exact Ev.congr (fun k => by rw [if_neg (by decide), wakes_eq, Option.bind_some]) (Ev.now _)
 | true =>
  obtain ⟨hth, hok⟩ := ht rfl
  have h6 : labs.length ≤ 6 := by have := hok.b6; rwa [List.length_map] at this
  have h8 := hok.s8
  have hR := Round_ev lots samples spread labs hth
  have rs : ∀ q, risingB (labs.map m75).length (chosenF labs.length q) = true := fun q => by rw [List.length_map]; exact chosenF_rising _ _
  have cl : ∀ q, (chosenF labs.length q).length < 17592186044416 := fun q => by have := chosenF_length labs.length q; omega
  have ex : ∀ q, Ev (fun k => tensilelaw08_chosen.f k lots samples spread labs q) (chosenF labs.length q) := fun q => chosen_ev lots samples spread labs q h6
  have hmono : ∀ j, j < (labs.map m75).length → offOf (chosenF labs.length bits) j = true → offOf (chosenF labs.length (Go.bits .or .u8 bits more)) j = true := by
   intro j hj h
   rw [List.length_map] at hj
   rw [off_chosen _ _ _ hj] at h ⊢
   exact or_bit hb hm j (by omega) h
  have hall : canF (lots.map m46) samples spread (labs.map m75) (offOf (chosenF labs.length 255)) = true := by
   refine can_none hok _ (fun j hj => ?_)
   rw [List.length_map] at hj
   rw [off_chosen _ _ _ hj]
   exact all_bit j (by omega)
  have hcm := can_mono hok _ _ hmono
  have hsm := spans_mono hok _ _ hmono
  have ef := fun q => explainsF_ok hok (rs q)
  have sf := fun q => spansR_ok hok (rs q)
  have lf := fun q (hc : canF (lots.map m46) samples spread (labs.map m75) (offOf (chosenF labs.length q)) = true) => spans_length hok (offOf (chosenF labs.length q)) (-1) 0 hc
  refine Ev.congr (fun k => by rw [if_pos rfl]) ?_
  refine Ev.bind (ex bits) ?_
  refine Ev.bind (ex (Go.bits .or .u8 bits more)) ?_
  refine Ev.bind hR ?_
  refine Ev.congr (fun k => by rw [list_eq _ (cl _), Option.bind_some, Explains_eq _ _ _ _ _ (cl _), Option.bind_some, ef]) ?_
  refine Ev.bind hR ?_
  refine Ev.congr (fun k => by rw [list_eq _ (cl _), Option.bind_some, Explains_eq _ _ _ _ _ (cl _), Option.bind_some, ef]) ?_
  refine Ev.bind hR ?_
  refine Ev.bind (ex 255) ?_
  refine Ev.congr (fun k => by rw [Explains_eq _ _ _ _ _ (cl _), Option.bind_some, ef, if_pos rfl, if_pos rfl, if_pos rfl]) ?_
  simp only [hall, Bool.not_true]
  obtain hc | hc : canF (lots.map m46) samples spread (labs.map m75) (offOf (chosenF labs.length bits)) = false ∨ canF (lots.map m46) samples spread (labs.map m75) (offOf (chosenF labs.length bits)) = true := by
   cases canF (lots.map m46) samples spread (labs.map m75) (offOf (chosenF labs.length bits))
   ·exact .inl rfl
   ·exact .inr rfl
  ·rw [hc]
   refine Ev.congr (fun k => by rw [if_neg (by decide)]) ?_
   exact Ev.step (fun k => by simp only [tensilelaw08_RoundMore.j0]; rw [if_neg (by decide), if_neg (by decide), wakes_eq, Option.bind_some]) (Ev.now _)
  ·have hc2 := hcm hc
   rw [hc, hc2]
   refine Ev.congr (fun k => by rw [if_pos rfl, if_pos rfl]) ?_
   refine Ev.step (fun k => by simp only [tensilelaw08_RoundMore.j0]; rw [if_neg (by decide), if_pos trivial]) ?_
   refine Ev.bind hR ?_
   refine Ev.congr (fun k => by rw [list_eq _ (cl _), Option.bind_some, Spans_eq _ _ _ _ _ (cl _), Option.bind_some, sf, if_pos hc]) ?_
   refine Ev.bind hR ?_
   refine Ev.congr (fun k => by rw [list_eq _ (cl _), Option.bind_some, Spans_eq _ _ _ _ _ (cl _), Option.bind_some, sf, if_pos hc2, if_pos rfl, if_pos rfl]) ?_
   have l1 := lf bits hc
   have l2 := lf (Go.bits .or .u8 bits more) hc2
   have hsm' := hsm hc
   simp only
   generalize (spansF (lots.map m46) samples spread (labs.map m75) (offOf (chosenF labs.length bits)) (-1) 0).1 = s at l1 hsm' ⊢
   generalize (spansF (lots.map m46) samples spread (labs.map m75) (offOf (chosenF labs.length (Go.bits .or .u8 bits more))) (-1) 0).1 = t at l2 hsm' ⊢
   refine Ev.congr (fun k => by rw [if_pos (by omega), show ((t.length : Int) != (s.length : Int)) = false from by rw [bne_eq_false_iff_eq]; omega]) ?_
   refine Ev.step (fun k => by simp only [tensilelaw08_RoundMore.j1]; rw [if_neg (by decide)]) ?_
   have key : ∀ d i : Nat, s.length - i = d → Ev (fun k => tensilelaw08_RoundMore.l0 k s t (i : Int)) true := by
    intro d
    induction d with
    | zero =>
     intro i hd
     exact Ev.step (fun k => by simp only [tensilelaw08_RoundMore.l0]; rw [if_neg (by omega), wakes_eq, Option.bind_some]) (Ev.now _)
    | succ d ih =>
     intro i hd
     have hi : i < s.length := by omega
     have h := ih (i + 1) (by omega)
     rw [← wr1 i _ hi (by omega)] at h
     obtain ⟨g0, g1, g2⟩ := hsm' i (by omega)
     have rds : ∀ xs : List S46, rd_T46 xs (i : Int) = xs.getD i z46 := fun xs => by unfold rd_T46; rw [Int.toNat_natCast]
     exact Ev.step (fun k => by simp only [tensilelaw08_RoundMore.l0]; rw [if_pos (by omega), if_pos (by omega), if_pos (by omega), rds, rds, if_neg (by omega), if_neg (by omega), if_neg (by omega)]) h
   exact key s.length 0 (by omega)
theorem RoundMore_walk (A0 : Option Addr) (c0 : Nat) (lots : List S44) (A1 : Option Addr) (c1 : Nat) (samples : List Int) (spread : Int) (A3 : Option Addr) (c3 : Nat) (labs : List S62) (bits more : Int) (W : World) {v : Value} (hi : In26 W v A0 c0 lots A1 c1 samples spread A3 c3 labs) (hw : (Lit.int .u8 bits).wf = true) (hw2 : (Lit.int .u8 more).wf = true) :
  Calls Try.prog 7 #[.agg #[.slice A0 lots.length c0, .slice A1 samples.length c1, .int .i64 spread, .slice A3 labs.length c3], .int .u8 bits, .int .u8 more] W fun e W' => e = .returned (.bool true) ∧ Below W.heap.size W W' := by
 obtain ⟨k, h⟩ := RoundMore_pure lots samples spread labs bits more (u8_wf hw) (u8_wf hw2) ⟨hi.a, hi.b, hi.c, hi.d⟩
 exact tensilelaw08_RoundMore.calls k A0 c0 lots A1 c1 samples spread A3 c3 labs bits more true W hi.r0 hi.h0 hi.r1 hi.h1 hi.r3 hi.h3 h
end Go.Proofs.Ytcpbhklaffgokaa.Q
