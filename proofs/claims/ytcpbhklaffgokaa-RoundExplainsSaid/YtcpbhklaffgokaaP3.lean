import Derived.Test.YtcpbhklaffgokaaP2
import Derived.Test.YtcpbhklaffgokaaQ7
namespace Go.Proofs.Ytcpbhklaffgokaa.Q
open Go.RowKit Go.Proofs.YtcpbhklaffgokaaW.PrintWords Go.Proofs.YtcpbhklaffgokaaW.PrintLast Go.Proofs.YtcpbhklaffgokaaW.PrintMore
set_option linter.unusedVariables false
set_option linter.unusedSimpArgs false
/-! what the reference's functions compute -/
def m46 (x : S44) : S46 := ⟨x.f0, x.f1⟩
def m75 (x : S62) : S75 := ⟨x.f0, x.f1⟩
theorem wr (x : Int) (h0 : -9223372036854775808 ≤ x) (h1 : x ≤ 9223372036854775807) : wrap64 x = x := by
  unfold wrap64
  omega
theorem wr1 (i n : Nat) (h : i < n) (hn : n ≤ 9223372036854775807) : wrap64 ((i : Int) + 1) = ((i + 1 : Nat) : Int) := by
  rw [wr _ (by omega) (by omega)]
  omega
theorem rd_drop (xs : List Int) (i : Nat) (h : i < xs.length) : xs.drop i = rd xs (i : Int) :: xs.drop (i + 1) := by
  rw [List.drop_eq_getElem_cons h, rd, Int.toNat_natCast, List.getD_eq_getElem?_getD, List.getElem?_eq_getElem h]
  rfl
theorem rd44_drop (xs : List S44) (i : Nat) (h : i < xs.length) : xs.drop i = rd_T44 xs (i : Int) :: xs.drop (i + 1) := by
  rw [List.drop_eq_getElem_cons h, rd_T44, Int.toNat_natCast, List.getD_eq_getElem?_getD, List.getElem?_eq_getElem h]
  rfl
theorem rd62_drop (xs : List S62) (i : Nat) (h : i < xs.length) : xs.drop i = rd_T62 xs (i : Int) :: xs.drop (i + 1) := by
  rw [List.drop_eq_getElem_cons h, rd_T62, Int.toNat_natCast, List.getD_eq_getElem?_getD, List.getElem?_eq_getElem h]
  rfl
theorem drop_end {α : Type} (xs : List α) (i : Nat) (h : ¬ i < xs.length) : xs.drop i = [] := List.drop_eq_nil_of_le (by omega)
theorem mem_drop0 {α : Type} {xs : List α} {i : Nat} {x : α} {ys : List α} (h : xs.drop i = x :: ys) : x ∈ xs := by
  have : x ∈ xs.drop i := by rw [h]; exact List.mem_cons_self
  exact List.mem_of_mem_drop this
/-- the lists' sizes -/
structure Sz (lots : List S44) (samples : List Int) (labs : List S62) : Prop where
  a : lots.length ≤ 9223372036854775807
  b : samples.length ≤ 9223372036854775807
  c : labs.length ≤ 9223372036854775807
  d : ∀ x ∈ labs, x.f1.length ≤ 9223372036854775807
theorem In_eq (a b c : Int) : tensileref08_In.f a b c = some (withinB a b c) := by
  unfold tensileref08_In.f withinB
  by_cases h : a ≥ b
  · rw [if_pos h, decide_eq_true (show b ≤ a from h), Bool.true_and]
  · rw [if_neg h, decide_eq_false (show ¬ b ≤ a from h), Bool.false_and]
section
variable (lots : List S44) (samples : List Int) (spread : Int) (labs : List S62)
theorem Fault_l3 {x5 f0 : Int} {ys : List Int} (hy : ys.length ≤ 9223372036854775807) {R : Int} (hR : Ev (fun k => tensileref08_Fault.l2 k (wrap64 (x5 + 1)) lots samples spread labs) R) :
    ∀ d i : Nat, ys.length - i = d → Ev (fun k => tensileref08_Fault.l3 k x5 (i : Int) lots samples spread labs f0 ys) (if (ys.drop i).all (fun n => withinB n (-1) 1000) = true then R else 1) := by
  intro d
  induction d with
  | zero =>
    intro i hd
    rw [drop_end ys i (by omega)]
    refine Ev.step (fun k => by simp only [tensileref08_Fault.l3]; rw [if_neg (by omega)]) ?_
    simpa using hR
  | succ d ih =>
    intro i hd
    have hlt : i < ys.length := by omega
    rw [rd_drop ys i hlt, List.all_cons]
    cases hb : withinB (rd ys (i : Int)) (-1) 1000
    · refine Ev.step (fun k => by simp only [tensileref08_Fault.l3]; rw [if_pos (by omega), if_pos (by omega), In_eq, hb, Option.bind_some, if_neg (by decide)]) ?_
      simpa using Ev.now (1 : Int)
    · refine Ev.step (fun k => by simp only [tensileref08_Fault.l3]; rw [if_pos (by omega), if_pos (by omega), In_eq, hb, Option.bind_some, if_pos rfl, wr1 i _ hlt hy]) ?_
      simpa using ih (i + 1) (by omega)
theorem Fault_l2 (hs : Sz lots samples labs) : ∀ d i : Nat, labs.length - i = d → Ev (fun k => tensileref08_Fault.l2 k (i : Int) lots samples spread labs) (if (labs.drop i).all (fun x => labB samples.length (m75 x)) = true then 0 else 1) := by
  intro d
  induction d with
  | zero =>
    intro i hd
    rw [drop_end labs i (by omega)]
    refine Ev.step (fun k => by simp only [tensileref08_Fault.l2]; rw [if_neg (by omega)]) ?_
    simpa using Ev.now (0 : Int)
  | succ d ih =>
    intro i hd
    have hlt : i < labs.length := by omega
    have hdr := rd62_drop labs i hlt
    rw [hdr, List.all_cons]
    have hy : (rd_T62 labs (i : Int)).f1.length ≤ 9223372036854775807 := hs.d _ (mem_drop0 hdr)
    have hn : labB samples.length (m75 (rd_T62 labs (i : Int))) = (withinB (rd_T62 labs (i : Int)).f0 0 100 && ((rd_T62 labs (i : Int)).f1.length == samples.length && (rd_T62 labs (i : Int)).f1.all fun n => withinB n (-1) 1000)) := rfl
    generalize hx : rd_T62 labs (i : Int) = x at hy hn ⊢
    rw [hn]
    have hnext := ih (i + 1) (by omega)
    rw [← wr1 i _ hlt hs.c] at hnext
    have h3 := Fault_l3 lots samples spread labs (f0 := x.f0) hy hnext x.f1.length 0 (by omega)
    rw [List.drop_zero] at h3
    cases hb : withinB x.f0 0 100
    · refine Ev.step (fun k => by simp only [tensileref08_Fault.l2]; rw [if_pos (by omega), if_pos (by omega), hx, In_eq, hb, Option.bind_some, if_neg (by decide)]) ?_
      refine Ev.step (fun k => by simp only [tensileref08_Fault.j5]; rw [if_pos trivial]) ?_
      simpa using Ev.now (1 : Int)
    · by_cases hl : x.f1.length = samples.length
      · have hl2 : ((x.f1.length : Int) != (samples.length : Int)) = false := by rw [bne_eq_false_iff_eq]; omega
        have hl3 : (x.f1.length == samples.length) = true := by rw [beq_iff_eq]; exact hl
        refine Ev.step (fun k => by simp only [tensileref08_Fault.l2]; rw [if_pos (by omega), if_pos (by omega), hx, In_eq, hb, Option.bind_some, if_pos rfl, hl2]) ?_
        refine Ev.step (fun k => by simp only [tensileref08_Fault.j5]; rw [if_neg (by decide)]) ?_
        rw [hl3]
        simp only [Bool.true_and]
        have e : (if (x.f1.all fun n => withinB n (-1) 1000) = true then (if ((List.drop (i + 1) labs).all fun x => labB samples.length (m75 x)) = true then (0 : Int) else 1) else 1) = if ((x.f1.all fun n => withinB n (-1) 1000) && ((List.drop (i + 1) labs).all fun x => labB samples.length (m75 x))) = true then 0 else 1 := by
          cases (x.f1.all fun n => withinB n (-1) 1000) <;> simp
        rw [← e]
        exact h3
      · have hl2 : ((x.f1.length : Int) != (samples.length : Int)) = true := by rw [bne_iff_ne]; omega
        have hl3 : (x.f1.length == samples.length) = false := by rw [beq_eq_false_iff_ne]; exact hl
        refine Ev.step (fun k => by simp only [tensileref08_Fault.l2]; rw [if_pos (by omega), if_pos (by omega), hx, In_eq, hb, Option.bind_some, if_pos rfl, hl2]) ?_
        refine Ev.step (fun k => by simp only [tensileref08_Fault.j5]; rw [if_pos trivial]) ?_
        rw [hl3]
        simpa using Ev.now (1 : Int)
theorem Fault_l1 (hs : Sz lots samples labs) : ∀ d i : Nat, samples.length - i = d → Ev (fun k => tensileref08_Fault.l1 k (i : Int) lots samples spread labs) (if (samples.drop i).all (sampB lots.length) = true then (if labs.all (fun x => labB samples.length (m75 x)) = true then 0 else 1) else 1) := by
  intro d
  induction d with
  | zero =>
    intro i hd
    rw [drop_end samples i (by omega)]
    refine Ev.step (fun k => by simp only [tensileref08_Fault.l1]; rw [if_neg (by omega)]) ?_
    have := Fault_l2 lots samples spread labs hs labs.length 0 (by omega)
    simpa using this
  | succ d ih =>
    intro i hd
    have hlt : i < samples.length := by omega
    have hl := hs.a
    rw [rd_drop samples i hlt, List.all_cons]
    have e : sampB lots.length (rd samples (i : Int)) = withinB (rd samples (i : Int)) 0 (wrap64 ((lots.length : Int) - 1)) := by rw [wr _ (by omega) (by omega)]; rfl
    rw [e]
    cases hb : withinB (rd samples (i : Int)) 0 (wrap64 ((lots.length : Int) - 1))
    · refine Ev.step (fun k => by simp only [tensileref08_Fault.l1]; rw [if_pos (by omega), if_pos (by omega), In_eq, hb, Option.bind_some, if_neg (by decide)]) ?_
      simpa using Ev.now (1 : Int)
    · refine Ev.step (fun k => by simp only [tensileref08_Fault.l1]; rw [if_pos (by omega), if_pos (by omega), In_eq, hb, Option.bind_some, if_pos rfl, wr1 i _ hlt hs.b]) ?_
      simpa using ih (i + 1) (by omega)
theorem Fault_l0 (hs : Sz lots samples labs) : ∀ d i : Nat, lots.length - i = d → Ev (fun k => tensileref08_Fault.l0 k (i : Int) lots samples spread labs) (if (lots.drop i).all (fun x => lotB x.f0 x.f1) = true then (if samples.all (sampB lots.length) = true then (if labs.all (fun x => labB samples.length (m75 x)) = true then 0 else 1) else 1) else 1) := by
  intro d
  induction d with
  | zero =>
    intro i hd
    rw [drop_end lots i (by omega)]
    refine Ev.step (fun k => by simp only [tensileref08_Fault.l0]; rw [if_neg (by omega)]) ?_
    have := Fault_l1 lots samples spread labs hs samples.length 0 (by omega)
    simpa using this
  | succ d ih =>
    intro i hd
    have hlt : i < lots.length := by omega
    rw [rd44_drop lots i hlt, List.all_cons]
    generalize hx : rd_T44 lots (i : Int) = x
    have e : lotB x.f0 x.f1 = (withinB x.f0 0 x.f1 && decide (x.f1 ≤ 1000)) := by unfold lotB withinB; rw [Bool.and_assoc]
    rw [e]
    cases hb : withinB x.f0 0 x.f1
    · refine Ev.step (fun k => by simp only [tensileref08_Fault.l0]; rw [if_pos (by omega), if_pos (by omega), hx, In_eq, hb, Option.bind_some, if_neg (by decide)]) ?_
      simpa using Ev.now (1 : Int)
    · by_cases h2 : x.f1 > 1000
      · refine Ev.step (fun k => by simp only [tensileref08_Fault.l0]; rw [if_pos (by omega), if_pos (by omega), hx, In_eq, hb, Option.bind_some, if_pos rfl, if_pos h2]) ?_
        rw [decide_eq_false (by omega)]
        simpa using Ev.now (1 : Int)
      · refine Ev.step (fun k => by simp only [tensileref08_Fault.l0]; rw [if_pos (by omega), if_pos (by omega), hx, In_eq, hb, Option.bind_some, if_pos rfl, if_neg h2, wr1 i _ hlt hs.a]) ?_
        rw [decide_eq_true (by omega)]
        simpa using ih (i + 1) (by omega)
/-- Fault is CheckRound. -/
theorem Fault_ev (hs : Sz lots samples labs) : Ev (fun k => tensileref08_Fault.f k lots samples spread labs) (checkRound (lots.map m46) samples spread (labs.map m75)) := by
  have h0 := Fault_l0 lots samples spread labs hs lots.length 0 (by omega)
  rw [List.drop_zero] at h0
  have hj : ∀ b : Bool, b = decide (4 < lots.length ∨ 8 < samples.length ∨ 6 < labs.length) → Ev (fun k => tensileref08_Fault.j0 k b lots samples spread labs) (checkRound (lots.map m46) samples spread (labs.map m75)) := by
    intro b hb
    cases b with
    | true =>
      have := of_decide_eq_true hb.symm
      refine Ev.step (fun k => by simp only [tensileref08_Fault.j0]; rw [if_pos trivial]) ?_
      have e : checkRound (lots.map m46) samples spread (labs.map m75) = 3 := by unfold checkRound; simp only [List.length_map]; rw [if_pos this]
      rw [e]
      exact Ev.now 3
    | false =>
      have hn := of_decide_eq_false hb.symm
      have e : checkRound (lots.map m46) samples spread (labs.map m75) = if lots.length = 0 ∨ (lots.all fun x => lotB x.f0 x.f1) = false ∨ (samples.all (sampB lots.length)) = false ∨ withinB spread 0 100 = false ∨ (labs.all fun x => labB samples.length (m75 x)) = false then 1 else 0 := by
        unfold checkRound
        simp only [List.length_map, List.all_map]
        rw [if_neg hn]
        rfl
      rw [e]
      by_cases hz : lots.length = 0
      · refine Ev.step (fun k => by simp only [tensileref08_Fault.j0]; rw [if_neg (by decide), if_pos (by omega)]) ?_
        refine Ev.step (fun k => by simp only [tensileref08_Fault.j1]; rw [if_pos trivial]) ?_
        rw [if_pos (.inl hz)]
        exact Ev.now 1
      · cases hw : withinB spread 0 100
        · refine Ev.step (fun k => by simp only [tensileref08_Fault.j0]; rw [if_neg (by decide), if_neg (by omega), In_eq, hw, Option.bind_some, Bool.not_false]) ?_
          refine Ev.step (fun k => by simp only [tensileref08_Fault.j1]; rw [if_pos trivial]) ?_
          rw [if_pos (.inr (.inr (.inr (.inl rfl))))]
          exact Ev.now 1
        · refine Ev.step (fun k => by simp only [tensileref08_Fault.j0]; rw [if_neg (by decide), if_neg (by omega), In_eq, hw, Option.bind_some, Bool.not_true]) ?_
          refine Ev.step (fun k => by simp only [tensileref08_Fault.j1]; rw [if_neg (by decide)]) ?_
          have e2 : (if (lots.all fun x => lotB x.f0 x.f1) = true then (if samples.all (sampB lots.length) = true then (if labs.all (fun x => labB samples.length (m75 x)) = true then (0 : Int) else 1) else 1) else 1) = if lots.length = 0 ∨ (lots.all fun x => lotB x.f0 x.f1) = false ∨ (samples.all (sampB lots.length)) = false ∨ true = false ∨ (labs.all fun x => labB samples.length (m75 x)) = false then 1 else 0 := by
            cases (lots.all fun x => lotB x.f0 x.f1) <;> cases samples.all (sampB lots.length) <;> cases (labs.all fun x => labB samples.length (m75 x)) <;> simp [hz]
          rw [← e2]
          exact h0
  unfold tensileref08_Fault.f
  by_cases h1 : 4 < lots.length
  · refine Ev.congr (fun k => by rw [if_pos (by omega)]) (hj true (decide_eq_true (.inl h1)).symm)
  · by_cases h2 : 8 < samples.length
    · refine Ev.congr (fun k => by rw [if_neg (by omega), if_pos (by omega)]) (hj true (decide_eq_true (.inr (.inl h2))).symm)
    · refine Ev.congr (fun k => by rw [if_neg (by omega), if_neg (by omega)]) (hj _ ?_)
      rw [Bool.eq_iff_iff, decide_eq_true_eq, decide_eq_true_eq]
      omega
end
end Go.Proofs.Ytcpbhklaffgokaa.Q
