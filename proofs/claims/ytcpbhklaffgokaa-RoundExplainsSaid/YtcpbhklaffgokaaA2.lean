import Derived.Test.YtcpbhklaffgokaaH11
import Derived.Test.YtcpbhklaffgokaaQ1
namespace Go.Proofs.Ytcpbhklaffgokaa.Q
open Go.RowKit Go.Proofs.YtcpbhklaffgokaaW.PrintWords Go.Proofs.YtcpbhklaffgokaaW.PrintLast Go.Proofs.YtcpbhklaffgokaaW.PrintMore
set_option linter.unusedVariables false
set_option linter.unusedSimpArgs false
theorem In_any (a b c : Int) (w : World) : Calls Try.prog 33 #[.int .i64 a, .int .i64 b, .int .i64 c] w fun e w' => e = .returned (.bool (withinB a b c)) ∧ w' = w := by
  by_cases h1 : b ≤ a <;> by_cases h2 : a ≤ c
  all_goals
    go_enter Try.func33, Try.ntmps33
    go_wp2
    go_ret
    exact ⟨by simp [withinB, *], rfl⟩
set_option maxHeartbeats 4000000 in
set_option maxRecDepth 100000 in
theorem rising_any (A0 : Option Addr) (n0 c0 : Nat) (A1 : Option Addr) (n1 c1 : Nat) (spread : Int) (A3 : Option Addr) (n3 c3 : Nat) (B : Option Addr) (cB : Nat) (l : List Int) (w : World) (hrB : (Kd.int .i64).C w B l.length l) (hn : n3 ≤ 9223372036854775807) :
    Calls Try.prog 24 #[.agg #[.slice A0 n0 c0, .slice A1 n1 c1, .int .i64 spread, .slice A3 n3 c3], .slice B l.length cB] w fun e w' => e = .returned (.bool (risingB n3 l)) ∧ Below w.heap.size w w' := by
  have hl : l.length ≤ 9223372036854775807 := hrB.2.1
  have HR := Aside0.mk hrB
  have HB := Aside0.mk (below_alloc (Below.refl _ w) (.cells #[.slice A0 n0 c0, .slice A1 n1 c1, .int .i64 spread, .slice A3 n3 c3] 26))
  have B2 := Aside0.mk (blk_new w (.cells #[.slice A0 n0 c0, .slice A1 n1 c1, .int .i64 spread, .slice A3 n3 c3] 26))
  clear hrB
  go_enter Try.func24, Try.ntmps24
  go_wp2
  go_loopw [5] (fun q wr => ∃ k : Int, 0 ≤ k ∧ k ≤ l.length ∧ q = .int .i64 k ∧ Aside0 (risingK n3 l k.toNat = true) ∧ Aside0 (wr.heap[w.heap.size]? = some (.cells #[.slice A0 n0 c0, .slice A1 n1 c1, .int .i64 spread, .slice A3 n3 c3] 26 (0, 0))) ∧ Aside0 (Below w.heap.size w wr)) (fun q _ => l.length - (intOf q).toNat)
  case atStart => exact ⟨0, by omega, by omega, rfl, ⟨rfl⟩, B2, HB⟩
  case round =>
    obtain ⟨k, hk0, hk, rfl, HK, B2, HB⟩ := hrel
    obtain ⟨p0, p1, p2, p3⟩ := cells4 B2.out
    by_cases hlt : k < l.length
    · have hgB := Kd.C_below HR.out HB.out
      obtain ⟨ad, hA, hy0⟩ := Kd.at_int hgB k hk0 hlt
      obtain rfl := hA
      have HY1 := Aside0.mk (fun (h : 0 < k) => Kd.at_int hgB (k - 1) (by omega) (by omega))
      clear hgB
      have HE := Aside0.mk (fun (h : okAt n3 l k = false) => risingK_false n3 l k.toNat (by rw [Int.toNat_of_nonneg hk0]; exact h) l.length (by omega))
      have HN := Aside0.mk (fun (h : okAt n3 l k = true) => (by rw [show (k + 1).toNat = k.toNat + 1 by omega]; simp only [risingK, HK.out, Int.toNat_of_nonneg hk0, h]; rfl : risingK n3 l (k + 1).toNat = true))
      have HW := Aside0.mk (In_any (rd l k) 0 ((n3 : Int) - 1))
      cases hW : withinB (rd l k) 0 ((n3 : Int) - 1)
      · simp only [hW] at HW
        have hf : okAt n3 l k = false := by unfold okAt; rw [hW]; rfl
        have HF := Aside0.mk (show risingB n3 l = false from HE.out hf)
        clear hW hf HE HN
        go_wp2
        go_quiet ((go_at_call 33; exact Calls.quiet_of_same (HW.out _)))
        go_wp2
        go_ret
        exact ⟨by rw [HF.out]; rfl, by repeat (first | exact HB.out | apply pw_below_drewN)⟩
      · simp only [hW] at HW
        by_cases h0 : 0 < k
        · obtain ⟨ad2, hA2, hy1⟩ := HY1.out h0
          injection hA2 with hA2
          subst hA2
          rw [show (k - 1).toNat = k.toNat - 1 by omega] at hy1
          by_cases h1 : rd l k ≤ rd l (k - 1)
          · have hf : okAt n3 l k = false := by unfold okAt; rw [hW]; simp; omega
            have HF := Aside0.mk (show risingB n3 l = false from HE.out hf)
            clear hW hf HE HN
            go_wp2
            go_quiet ((go_at_call 33; exact Calls.quiet_of_same (HW.out _)))
            go_wp2
            go_ret
            exact ⟨by rw [HF.out]; rfl, by repeat (first | exact HB.out | apply pw_below_drewN)⟩
          · have hf : okAt n3 l k = true := by unfold okAt; rw [hW]; simp; omega
            replace HN := Aside0.mk (HN.out hf)
            clear hW hf HE
            go_wp2
            go_quiet ((go_at_call 33; exact Calls.quiet_of_same (HW.out _)))
            go_wp2
            go_roundw
            case rel => exact ⟨k + 1, by omega, by omega, rfl, HN, ⟨blk_drewN B2.out _⟩, ⟨pw_below_drewN HB.out _⟩⟩
            case measure => simp [intOf]; omega
        · have hf : okAt n3 l k = true := by unfold okAt; rw [hW]; simp; left; omega
          have hd : decide (0 < k) = false := decide_eq_false h0
          replace HN := Aside0.mk (HN.out hf)
          clear hW hf HE
          go_wp2
          go_quiet ((go_at_call 33; exact Calls.quiet_of_same (HW.out _)))
          go_wp2
          go_roundw
          case rel => exact ⟨k + 1, by omega, by omega, rfl, HN, ⟨blk_drewN B2.out _⟩, ⟨pw_below_drewN HB.out _⟩⟩
          case measure => simp [intOf]; omega
    · obtain rfl : k = l.length := by omega
      have HF := Aside0.mk (show risingB n3 l = true from by unfold risingB; exact HK.out)
      go_wp2
      go_ret
      exact ⟨by rw [HF.out]; rfl, HB.out⟩
def tensileref08_Rising.f (k : Nat) (l0_0 : List (S44)) (l0_1 : List Int) (a0_2 : Int) (l0_3 : List (S62)) (l1 : List Int) : Option (Bool) := some (risingB l0_3.length l1)
theorem tensileref08_Rising.mono : ∀ a0 a1 a2 a3 a4 k, LeO (tensileref08_Rising.f k a0 a1 a2 a3 a4) (tensileref08_Rising.f (k + 1) a0 a1 a2 a3 a4) := fun _ _ _ _ _ _ => LeO.refl _
theorem tensileref08_Rising.calls (k : Nat) (A0_0 : Option Addr) (c0_0 : Nat) (l0_0 : List (S44)) (A0_1 : Option Addr) (c0_1 : Nat) (l0_1 : List Int) (a0_2 : Int) (A0_3 : Option Addr) (c0_3 : Nat) (l0_3 : List (S62)) (A1 : Option Addr) (c1 : Nat) (l1 : List Int) (r : Bool) (w : World) (hr0_0 : Kd.C k44 w A0_0 l0_0.length l0_0) (hc0_0 : l0_0.length ≤ c0_0) (hr0_1 : Kd.C (Kd.int .i64) w A0_1 l0_1.length l0_1) (hc0_1 : l0_1.length ≤ c0_1) (hr0_3 : Kd.C k62 w A0_3 l0_3.length l0_3) (hc0_3 : l0_3.length ≤ c0_3) (hr1 : Kd.C (Kd.int .i64) w A1 l1.length l1) (hc1 : l1.length ≤ c1) (h : tensileref08_Rising.f k l0_0 l0_1 a0_2 l0_3 l1 = some r) :
    Calls Try.prog 24 #[.agg #[.slice A0_0 l0_0.length c0_0, .slice A0_1 l0_1.length c0_1, .int .i64 a0_2, .slice A0_3 l0_3.length c0_3], .slice A1 l1.length c1] w fun e w' => e = .returned (.bool r) ∧ Below w.heap.size w w' := by
  obtain rfl := Option.some.inj h
  exact rising_any A0_0 _ c0_0 A0_1 _ c0_1 a0_2 A0_3 _ c0_3 A1 c1 l1 w hr1 hr0_3.2.1
end Go.Proofs.Ytcpbhklaffgokaa.Q
