import Derived.Test.YtcpbhklaffgokaaP4
import Derived.Test.YtcpbhklaffgokaaA1
import Derived.Test.YtcpbhklaffgokaaQ5
namespace Go.Proofs.Ytcpbhklaffgokaa.Q
open Go.RowKit Go.Proofs.YtcpbhklaffgokaaW.PrintWords Go.Proofs.YtcpbhklaffgokaaW.PrintLast Go.Proofs.YtcpbhklaffgokaaW.PrintMore
set_option linter.unusedVariables false
set_option linter.unusedSimpArgs false
/-- a round that is thin -/
structure ThinR (lots : List S44) (samples : List Int) (labs : List S62) : Prop where
  a : lots.length ≤ 6
  b : samples.length ≤ 10
  c : labs.length ≤ 8
  d : ∀ x ∈ labs, x.f1.length ≤ 10
theorem list_eq (l : List Int) (h : l.length < 17592186044416) : tensilelaw08_list.f l = some l := by
  unfold tensilelaw08_list.f
  rw [Option.bind_some, if_pos (by simpa using h), List.nil_append]
section
variable (lots : List S44) (samples : List Int) (spread : Int) (labs : List S62)
theorem Thin_ev (hs : Sz lots samples labs) : ∃ b, Ev (fun k => tensilelaw08_Thin.f k lots samples spread labs) b ∧ (b = true → ThinR lots samples labs) := by
  have key : ∀ d i : Nat, labs.length - i = d → ∃ b, Ev (fun k => tensilelaw08_Thin.l0 k (i : Int) lots samples spread labs) b ∧ (b = true → lots.length ≤ 6 ∧ samples.length ≤ 10 ∧ labs.length ≤ 8 ∧ (∀ x ∈ labs.drop i, x.f1.length ≤ 10)) := by
    have hend : ∀ i : Nat, (9 ≤ i ∨ labs.length ≤ i) → ∃ b, Ev (fun k => tensilelaw08_Thin.j1 k (i : Int) false lots samples spread labs) b ∧ (b = true → lots.length ≤ 6 ∧ samples.length ≤ 10 ∧ labs.length ≤ 8 ∧ (∀ x ∈ labs.drop i, x.f1.length ≤ 10)) := by
      intro i hi
      by_cases h1 : lots.length ≤ 6
      · by_cases h2 : samples.length ≤ 10
        · refine ⟨decide ((labs.length : Int) ≤ 8), Ev.step (fun k => by simp only [tensilelaw08_Thin.j1]; rw [if_neg (by decide), if_pos (by omega), if_pos (by omega)]) (Ev.now _), fun h => ?_⟩
          have := of_decide_eq_true h
          refine ⟨h1, h2, by omega, fun x hx => ?_⟩
          rw [List.drop_eq_nil_of_le (by omega)] at hx
          cases hx
        · exact ⟨false, Ev.step (fun k => by simp only [tensilelaw08_Thin.j1]; rw [if_neg (by decide), if_pos (by omega), if_neg (by omega)]) (Ev.now _), fun h => by cases h⟩
      · exact ⟨false, Ev.step (fun k => by simp only [tensilelaw08_Thin.j1]; rw [if_neg (by decide), if_neg (by omega)]) (Ev.now _), fun h => by cases h⟩
    intro d
    induction d with
    | zero =>
      intro i hd
      obtain ⟨b, h1, h2⟩ := hend i (.inr (by omega))
      exact ⟨b, Ev.step (fun k => by simp only [tensilelaw08_Thin.l0]; rw [if_neg (by omega)]) h1, h2⟩
    | succ d ih =>
      intro i hd
      have hlt : i < labs.length := by omega
      by_cases h9 : i < 9
      · have hd9 : decide ((i : Int) < 9) = true := decide_eq_true (by omega)
        by_cases hx : (rd_T62 labs (i : Int)).f1.length ≤ 10
        · obtain ⟨b, h1, h2⟩ := ih (i + 1) (by omega)
          rw [← wr1 i _ hlt hs.c] at h1
          refine ⟨b, Ev.step (fun k => by simp only [tensilelaw08_Thin.l0]; rw [if_pos (by omega), hd9]) (Ev.step (fun k => by simp only [tensilelaw08_Thin.j1]; rw [if_pos trivial, if_pos (by omega), if_pos (by omega), if_neg (by omega)]) h1), fun h => ?_⟩
          obtain ⟨a1, a2, a3, a4⟩ := h2 h
          refine ⟨a1, a2, a3, fun x hx' => ?_⟩
          rw [rd62_drop labs i hlt] at hx'
          rcases List.mem_cons.1 hx' with rfl | hx'
          · exact hx
          · exact a4 x hx'
        · exact ⟨false, Ev.step (fun k => by simp only [tensilelaw08_Thin.l0]; rw [if_pos (by omega), hd9]) (Ev.step (fun k => by simp only [tensilelaw08_Thin.j1]; rw [if_pos trivial, if_pos (by omega), if_pos (by omega), if_pos (by omega)]) (Ev.now _)), fun h => by cases h⟩
      · have hd9 : decide ((i : Int) < 9) = false := decide_eq_false (by omega)
        obtain ⟨b, h1, h2⟩ := hend i (.inl (by omega))
        exact ⟨b, Ev.step (fun k => by simp only [tensilelaw08_Thin.l0]; rw [if_pos (by omega), hd9]) h1, h2⟩
  obtain ⟨b, h1, h2⟩ := key labs.length 0 (by omega)
  refine ⟨b, h1, fun h => ?_⟩
  obtain ⟨a1, a2, a3, a4⟩ := h2 h
  rw [List.drop_zero] at a4
  exact ⟨a1, a2, a3, a4⟩
theorem Few_ev (hs : Sz lots samples labs) : ∃ b, Ev (fun k => tensilelaw08_Few.f k lots samples spread labs) b ∧ (b = true → ThinR lots samples labs) := by
  obtain ⟨t, h1, h2⟩ := Thin_ev lots samples spread labs hs
  have hf := Fault_ev lots samples spread labs hs
  generalize checkRound (lots.map m46) samples spread (labs.map m75) = C at hf
  have hfin : ∀ x3 : Int, ∃ b, Ev (fun k => (tensileref08_Fault.f k lots samples spread labs).bind fun t122 => (if t122 = 0 then (if x3 ≤ 60 then (some (decide (spread ≤ 8))) else (some false)) else (some true))) b := by
    intro x3
    by_cases hc : C = 0
    · by_cases h6 : x3 ≤ 60
      · exact ⟨_, Ev.bind hf (Ev.congr (fun k => by rw [if_pos hc, if_pos h6]) (Ev.now _))⟩
      · exact ⟨_, Ev.bind hf (Ev.congr (fun k => by rw [if_pos hc, if_neg h6]) (Ev.now _))⟩
    · exact ⟨_, Ev.bind hf (Ev.congr (fun k => by rw [if_neg hc]) (Ev.now _))⟩
  have key : ∀ d i : Nat, ∀ x3 : Int, lots.length - i = d → ∃ b, Ev (fun k => tensilelaw08_Few.l0 k x3 (i : Int) lots samples spread labs) b := by
    intro d
    induction d with
    | zero =>
      intro i x3 hd
      obtain ⟨b, h⟩ := hfin x3
      exact ⟨b, Ev.step (fun k => by simp only [tensilelaw08_Few.l0]; rw [if_neg (by omega)]) h⟩
    | succ d ih =>
      intro i x3 hd
      have hlt : i < lots.length := by omega
      by_cases hc : C = 0
      · obtain ⟨b, h⟩ := ih (i + 1) (wrap64 (x3 + (wrap64 (((rd_T44 lots i).f1) - ((rd_T44 lots i).f0))))) (by omega)
        rw [← wr1 i _ hlt hs.a] at h
        exact ⟨b, Ev.step (fun k => by simp only [tensilelaw08_Few.l0]; rw [if_pos (by omega)]) (Ev.bind hf (Ev.congr (fun k => by rw [if_pos hc, if_pos (by omega)]) h))⟩
      · obtain ⟨b, h⟩ := hfin x3
        exact ⟨b, Ev.step (fun k => by simp only [tensilelaw08_Few.l0]; rw [if_pos (by omega)]) (Ev.bind hf (Ev.congr (fun k => by rw [if_neg hc]) h))⟩
  unfold tensilelaw08_Few.f
  cases t with
  | true =>
    obtain ⟨b, h⟩ := key lots.length 0 0 (by omega)
    exact ⟨b, Ev.bind h1 (Ev.congr (fun k => by rw [if_pos rfl]; rfl) h), fun _ => h2 rfl⟩
  | false => exact ⟨false, Ev.bind h1 (Ev.congr (fun k => by rw [if_neg (by decide)]) (Ev.now _)), fun h => by cases h⟩
theorem Round_ev (ht : ThinR lots samples labs) : Ev (fun k => tensilelaw08_Round.f k lots samples spread labs) (lots.map m46, samples, spread, labs.map m75) := by
  have ha := ht.a
  have hb := ht.b
  have hc := ht.c
  have k1 : ∀ d i : Nat, labs.length - i = d → i ≤ labs.length → Ev (fun k => tensilelaw08_Round.l1 k (i : Int) lots samples spread labs (lots.map m46) samples spread ((labs.take i).map m75)) (lots.map m46, samples, spread, labs.map m75) := by
    intro d
    induction d with
    | zero =>
      intro i hd hi
      rw [List.take_of_length_le (by omega)]
      exact Ev.step (fun k => by simp only [tensilelaw08_Round.l1]; rw [if_neg (by omega)]) (Ev.now _)
    | succ d ih =>
      intro i hd hi
      have hlt : i < labs.length := by omega
      have h := ih (i + 1) (by omega) (by omega)
      rw [← wr1 i _ hlt (by omega), List.take_succ_eq_append_getElem hlt, List.map_append, List.map_singleton] at h
      have he : labs[i] = rd_T62 labs (i : Int) := by rw [rd_T62, Int.toNat_natCast, List.getD_eq_getElem?_getD, List.getElem?_eq_getElem hlt]; rfl
      have hx := ht.d _ (List.getElem_mem hlt)
      rw [he] at h hx
      refine Ev.step (fun k => by simp only [tensilelaw08_Round.l1]; rw [if_pos (by omega), if_pos (by omega), list_eq _ (by omega), Option.bind_some, if_pos (by rw [List.length_map, List.length_take]; omega)]) ?_
      exact h
  have k0 : ∀ d i : Nat, lots.length - i = d → i ≤ lots.length → Ev (fun k => tensilelaw08_Round.l0 k (i : Int) lots samples spread labs ((lots.take i).map m46) samples spread) (lots.map m46, samples, spread, labs.map m75) := by
    intro d
    induction d with
    | zero =>
      intro i hd hi
      rw [List.take_of_length_le (by omega)]
      refine Ev.step (fun k => by simp only [tensilelaw08_Round.l0]; rw [if_neg (by omega)]) ?_
      exact k1 labs.length 0 (by omega) (by omega)
    | succ d ih =>
      intro i hd hi
      have hlt : i < lots.length := by omega
      have h := ih (i + 1) (by omega) (by omega)
      rw [← wr1 i _ hlt (by omega), List.take_succ_eq_append_getElem hlt, List.map_append, List.map_singleton] at h
      have he : lots[i] = rd_T44 lots (i : Int) := by rw [rd_T44, Int.toNat_natCast, List.getD_eq_getElem?_getD, List.getElem?_eq_getElem hlt]; rfl
      rw [he] at h
      refine Ev.step (fun k => by simp only [tensilelaw08_Round.l0]; rw [if_pos (by omega), if_pos (by omega), if_pos (by rw [List.length_map, List.length_take]; omega)]) ?_
      exact h
  have h := k0 lots.length 0 (by omega) (by omega)
  unfold tensilelaw08_Round.f
  exact Ev.congr (fun k => by rw [list_eq _ (by omega), Option.bind_some]; rfl) h
theorem fault_ev (hs : Sz lots samples labs) : Ev (fun k => tensilelaw08_fault.f k lots samples spread labs) (checkRound (lots.map m46) samples spread (labs.map m75)) := by
  unfold tensilelaw08_fault.f
  exact Ev.bind (Fault_ev lots samples spread labs hs) (Ev.now _)
end
theorem Ev_rounds {α : Type} {g : Nat → Option α} {r : α} (h : Ev g r) : ∃ k, g k = some r := by
  obtain ⟨K, h⟩ := h
  exact ⟨K, h K (Nat.le_refl _)⟩
theorem wakes_eq : tensilelaw08_wakes.f = some true := rfl
end Go.Proofs.Ytcpbhklaffgokaa.Q
