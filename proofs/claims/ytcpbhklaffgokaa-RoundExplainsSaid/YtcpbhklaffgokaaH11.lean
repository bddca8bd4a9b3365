import Derived.Test.YtcpbhklaffgokaaH10
namespace Go.Proofs.Ytcpbhklaffgokaa.Q
open Go.RowKit Go.Proofs.YtcpbhklaffgokaaW.PrintWords Go.Proofs.YtcpbhklaffgokaaW.PrintLast Go.Proofs.YtcpbhklaffgokaaW.PrintMore
set_option linter.unusedVariables false
set_option linter.unusedSimpArgs false

/-- what 'asked' answers: an error that is not 0, or the flags -/
def askedE (lots : List S46) (samples : List Int) (spread : Int) (labs : List S75) (l : List Int) : Int :=
  if checkRound lots samples spread labs ≠ 0 then checkRound lots samples spread labs else if risingB labs.length l = true then 0 else 2
theorem asked_err (A0 : Option Addr) (c0 : Nat) (lots : List S46) (A1 : Option Addr) (c1 : Nat) (samples : List Int) (spread : Int) (A3 : Option Addr) (c3 : Nat) (labs : List S75) (B : Option Addr) (cB : Nat) (l : List Int) (w : World) (hr0 : Kd.C k46 w A0 lots.length lots) (hr1 : (Kd.int .i64).C w A1 samples.length samples) (hr3 : Kd.C k75 w A3 labs.length labs) (hrB : (Kd.int .i64).C w B l.length l) (hl : l.length < 17592186044416) (hc : askedE lots samples spread labs l ≠ 0) :
    Calls Try.prog 51 #[.agg #[.slice A0 lots.length c0, .slice A1 samples.length c1, .int .i64 spread, .slice A3 labs.length c3], .slice B l.length cB] w (AskedErr w (askedE lots samples spread labs l)) := by
  by_cases h0 : checkRound lots samples spread labs = 0
  · have h := asked_ok A0 c0 lots A1 c1 samples spread A3 c3 labs B cB l w hr0 hr1 hr3 hrB hl h0
    unfold askedE at hc ⊢
    rw [if_neg (by simp [h0])] at hc ⊢
    by_cases h1 : risingB labs.length l = true
    · rw [if_pos h1] at hc; exact absurd rfl hc
    · rw [if_neg h1]
      refine h.mono ?_
      intro e w' h2
      unfold Asked at h2
      rwa [if_neg h1] at h2
  · have h := asked_bad A0 c0 lots A1 c1 samples spread A3 c3 labs B l.length cB w hr0 hr1 hr3 h0
    unfold askedE
    rw [if_pos h0]
    exact h
theorem asked_fine (A0 : Option Addr) (c0 : Nat) (lots : List S46) (A1 : Option Addr) (c1 : Nat) (samples : List Int) (spread : Int) (A3 : Option Addr) (c3 : Nat) (labs : List S75) (B : Option Addr) (cB : Nat) (l : List Int) (w : World) (hr0 : Kd.C k46 w A0 lots.length lots) (hr1 : (Kd.int .i64).C w A1 samples.length samples) (hr3 : Kd.C k75 w A3 labs.length labs) (hrB : (Kd.int .i64).C w B l.length l) (hl : l.length < 17592186044416) (hc : askedE lots samples spread labs l = 0) :
    Calls Try.prog 51 #[.agg #[.slice A0 lots.length c0, .slice A1 samples.length c1, .int .i64 spread, .slice A3 labs.length c3], .slice B l.length cB] w (AskedPost w A0 c0 lots A1 c1 samples spread A3 c3 labs l) ∧ RoundOk lots samples spread labs := by
  have h0 : checkRound lots samples spread labs = 0 := by
    unfold askedE at hc
    by_cases h : checkRound lots samples spread labs = 0
    · exact h
    · rw [if_pos h] at hc; exact hc
  have h1 : risingB labs.length l = true := by
    unfold askedE at hc
    rw [if_neg (by simp [h0])] at hc
    by_cases h : risingB labs.length l = true
    · exact h
    · rw [if_neg h] at hc; cases hc
  refine ⟨(asked_ok A0 c0 lots A1 c1 samples spread A3 c3 labs B cB l w hr0 hr1 hr3 hrB hl h0).mono ?_, roundOk_of_check h0⟩
  intro e w' h2
  unfold Asked at h2
  rwa [if_pos h1] at h2

def explainsF (lots : List S46) (samples : List Int) (spread : Int) (labs : List S75) (l : List Int) : Bool × Int :=
  if askedE lots samples spread labs l = 0 then (canF lots samples spread labs (offOf l), 0) else (false, askedE lots samples spread labs l)
set_option maxHeartbeats 4000000 in
set_option maxRecDepth 100000 in
theorem explains_any (A0 : Option Addr) (c0 : Nat) (lots : List S46) (A1 : Option Addr) (c1 : Nat) (samples : List Int) (spread : Int) (A3 : Option Addr) (c3 : Nat) (labs : List S75) (B : Option Addr) (cB : Nat) (l : List Int) (w : World) (hr0 : Kd.C k46 w A0 lots.length lots) (hr1 : (Kd.int .i64).C w A1 samples.length samples) (hr3 : Kd.C k75 w A3 labs.length labs) (hrB : (Kd.int .i64).C w B l.length l) (hl : l.length < 17592186044416) :
    Calls Try.prog 21 #[.agg #[.slice A0 lots.length c0, .slice A1 samples.length c1, .int .i64 spread, .slice A3 labs.length c3], .slice B l.length cB] w fun e w' => e = .returned (.tuple #[.bool (explainsF lots samples spread labs l).1, .int .i64 (explainsF lots samples spread labs l).2]) ∧ Below w.heap.size w w' := by
  by_cases hc : askedE lots samples spread labs l = 0
  · obtain ⟨H1, hok⟩ := asked_fine A0 c0 lots A1 c1 samples spread A3 c3 labs B cB l (w.alloc (.cells #[.slice A0 lots.length c0, .slice A1 samples.length c1, .int .i64 spread, .slice A3 labs.length c3] 34)) (Kd.C_alloc hr0 _) (Kd.C_alloc hr1 _) (Kd.C_alloc hr3 _) (Kd.C_alloc hrB _) hl hc
    have HX : explainsF lots samples spread labs l = (canF lots samples spread labs (offOf l), 0) := by unfold explainsF; rw [if_pos hc]
    rw [HX]
    have HC := Aside0.mk H1
    have HR := Aside0.mk (And.intro hr0 (And.intro hr1 hr3))
    have HB0 := Aside0.mk (below_alloc (Below.refl _ w) (.cells #[.slice A0 lots.length c0, .slice A1 samples.length c1, .int .i64 spread, .slice A3 labs.length c3] 34))
    replace hok := Aside0.mk hok
    clear H1 hr0 hr1 hr3 hrB hc HX
    go_enter Try.func21, Try.ntmps21
    go_wp2_with (go_at_call 51; refine Aside0.out ?_)
    refine ⟨?_⟩
    refine HC.out.mono ?_
    clear HC
    rintro e w1 ⟨jb, mb, rfl, hj⟩
    replace HJ := Aside0.mk hj
    clear hj
    go_wp2_with (go_at_call 52; refine Aside0.out ?_)
    refine ⟨?_⟩
    refine (explain_any _ jb mb A0 c0 lots A1 c1 samples spread A3 c3 labs (offOf l) _ (HJ.out.step (below_alloc (Below.refl _ _) _)) hok.out).mono ?_
    rintro e w2 ⟨rfl, hj2, _⟩
    replace HJ := Aside0.mk hj2
    clear hj2
    go_wp2
    go_ret2
    exact ⟨rfl, below_step HB0.out HJ.out.hb⟩
  · have HC := Aside0.mk (asked_err A0 c0 lots A1 c1 samples spread A3 c3 labs B cB l (w.alloc (.cells #[.slice A0 lots.length c0, .slice A1 samples.length c1, .int .i64 spread, .slice A3 labs.length c3] 34)) (Kd.C_alloc hr0 _) (Kd.C_alloc hr1 _) (Kd.C_alloc hr3 _) (Kd.C_alloc hrB _) hl hc)
    have HX : explainsF lots samples spread labs l = (false, askedE lots samples spread labs l) := by unfold explainsF; rw [if_neg hc]
    rw [HX]
    have HB0 := Aside0.mk (below_alloc (Below.refl _ w) (.cells #[.slice A0 lots.length c0, .slice A1 samples.length c1, .int .i64 spread, .slice A3 labs.length c3] 34))
    clear hr0 hr1 hr3 hrB HX
    generalize askedE lots samples spread labs l = c at hc HC ⊢
    have hne : (c != 0) = true := bne_iff_ne.2 hc
    clear hc
    go_enter Try.func21, Try.ntmps21
    go_wp2_with (go_at_call 51; refine Aside0.out ?_)
    refine ⟨?_⟩
    refine HC.out.mono ?_
    clear HC
    rintro e w1 ⟨rfl, hb⟩
    replace HB0 := Aside0.mk (below_step HB0.out hb)
    clear hb
    go_wp2
    go_ret2
    exact ⟨rfl, below_alloc HB0.out _⟩
def spansT.T4 : Bool × List (List Nat × List Nat) := (true, [([], []), ([], []), ([], []), ([0, 1, 2, 2], [0, 1, 2]), ([3], [3]), ([4], [4]), ([4], [4]), ([5, 3, 0, 1, 2, 3, 4, 5], [5]), ([6, 7, 0, 1, 2, 3, 4, 5, 6, 7], [6])])
def spansT.B4 : List Nat := [0, 0, 0, 7, 15, 31, 31, 63, 255]
theorem spansT.tab4 : rtab .any (opsOf Try.f26 4) = spansT.T4 := by kernel_rfl
theorem spansT.bits4 : waitsOk spansT.T4.2 spansT.B4 = true := by kernel_rfl
def spansR (lots : List S46) (samples : List Int) (spread : Int) (labs : List S75) (l : List Int) : List S46 × Int :=
  if askedE lots samples spread labs l = 0 then (if (spansF lots samples spread labs (offOf l) (-1) 0).2 = true then ((spansF lots samples spread labs (offOf l) (-1) 0).1, 0) else ([], 9)) else ([], askedE lots samples spread labs l)
set_option maxHeartbeats 4000000 in
set_option maxRecDepth 100000 in
theorem Spans_any (A0 : Option Addr) (c0 : Nat) (lots : List S46) (A1 : Option Addr) (c1 : Nat) (samples : List Int) (spread : Int) (A3 : Option Addr) (c3 : Nat) (labs : List S75) (B : Option Addr) (cB : Nat) (l : List Int) (w : World) (hr0 : Kd.C k46 w A0 lots.length lots) (hr1 : (Kd.int .i64).C w A1 samples.length samples) (hr3 : Kd.C k75 w A3 labs.length labs) (hrB : (Kd.int .i64).C w B l.length l) (hl : l.length < 17592186044416) :
    Calls Try.prog 26 #[.agg #[.slice A0 lots.length c0, .slice A1 samples.length c1, .int .i64 spread, .slice A3 labs.length c3], .slice B l.length cB] w fun e w' => ∃ v, e = .returned (.tuple #[v, .int .i64 (spansR lots samples spread labs l).2]) ∧ Kd.R k46 46 w' w.heap.size (fun _ => True) v (spansR lots samples spread labs l).1 ∧ Below w.heap.size w w' := by
  by_cases hc : askedE lots samples spread labs l = 0
  · obtain ⟨H1, hok⟩ := asked_fine A0 c0 lots A1 c1 samples spread A3 c3 labs B cB l (w.alloc (.cells #[.slice A0 lots.length c0, .slice A1 samples.length c1, .int .i64 spread, .slice A3 labs.length c3] 34)) (Kd.C_alloc hr0 _) (Kd.C_alloc hr1 _) (Kd.C_alloc hr3 _) (Kd.C_alloc hrB _) hl hc
    obtain ⟨r, hr⟩ : ∃ r, spansR lots samples spread labs l = r := ⟨_, rfl⟩
    have HX : ((spansF lots samples spread labs (offOf l) (-1) 0).2 = false → r = ([], 9)) ∧ ((spansF lots samples spread labs (offOf l) (-1) 0).2 = true → r = ((spansF lots samples spread labs (offOf l) (-1) 0).1, 0)) := by
      rw [← hr]
      unfold spansR
      rw [if_pos hc]
      exact ⟨fun h => by rw [if_neg (by rw [h]; exact Bool.false_ne_true)], fun h => if_pos h⟩
    rw [hr]
    clear hr
    replace HX := Aside0.mk HX
    have HC := Aside0.mk H1
    have HB0 := Aside0.mk (below_alloc (Below.refl _ w) (.cells #[.slice A0 lots.length c0, .slice A1 samples.length c1, .int .i64 spread, .slice A3 labs.length c3] 34))
    replace hok := Aside0.mk hok
    clear H1 hr0 hr1 hr3 hrB hc
    go_enter Try.func26, Try.ntmps26
    go_wp2_with (go_at_call 51; refine Aside0.out ?_)
    refine ⟨?_⟩
    refine HC.out.mono ?_
    clear HC
    rintro e w1 ⟨jb, mb, rfl, hj⟩
    have HJ := Aside0.mk (hj.step (below_alloc (Below.refl _ _) (.cells #[.bool (offOf l 0), .bool (offOf l 1), .bool (offOf l 2), .bool (offOf l 3), .bool (offOf l 4), .bool (offOf l 5)] 85)))
    have B7 := Aside0.mk (blk_new w1 (.cells #[.bool (offOf l 0), .bool (offOf l 1), .bool (offOf l 2), .bool (offOf l 3), .bool (offOf l 4), .bool (offOf l 5)] 85))
    clear hj
    go_wp2
    generalize w1.alloc (.cells #[.bool (offOf l 0), .bool (offOf l 1), .bool (offOf l 2), .bool (offOf l 3), .bool (offOf l 4), .bool (offOf l 5)] 85) = w2 at B7 HJ ⊢
    generalize w1.heap.size = g7 at B7 ⊢
    refine start_ (n := 9) (S := fun w' => w'.cell? ⟨g7, 0, none⟩ = some (.bool (offOf l 0)) ∧ w'.cell? ⟨g7, 1, none⟩ = some (.bool (offOf l 1)) ∧ w'.cell? ⟨g7, 2, none⟩ = some (.bool (offOf l 2)) ∧ w'.cell? ⟨g7, 3, none⟩ = some (.bool (offOf l 3)) ∧ w'.cell? ⟨g7, 4, none⟩ = some (.bool (offOf l 4)) ∧ w'.cell? ⟨g7, 5, none⟩ = some (.bool (offOf l 5))) (ds := []) #[false, false, false, false, false, false, false, false, false] (by kernel_rfl) rfl rfl ⟨(cells6 (blk_drew B7.out)).1, (cells6 (blk_drew B7.out)).2.1, (cells6 (blk_drew B7.out)).2.2.1, (cells6 (blk_drew B7.out)).2.2.2.1, (cells6 (blk_drew B7.out)).2.2.2.2.1, (cells6 (blk_drew B7.out)).2.2.2.2.2⟩ (fun hHeld => ?_)
    refine with_tabW spansT.tab4 spansT.bits4 (fun HT_ HW_ => ?_)
    replace B7 := Aside0.mk (blk_drew B7.out)
    replace HJ := Aside0.mk (HJ.out.step (below_drew1 (Below.refl _ _)))
    generalize w2.drew = w3 at B7 HJ hHeld ⊢
    refine pure_ (i := 0) (N := some 22) (v := ?_) (a' := ?_) #[true, false, false, false, false, false, false, false, false] rfl rfl (any_of HT_.out (by kernel_rfl)) (fun _ _ _ h => h) (Or.inl ⟨by rfl, ?_⟩) ?_ ?_
    rotate_left
    · intro w'
      go_simp
      with_reducible rfl
    rotate_left
    · simp only [Act.put, List.setIfInBounds_toArray, List.set_cons_zero, List.set_cons_succ, i64_w, i32_w]
      rfl
    refine take_ (i := 1) (N := some 23) (v := ?_) (a' := ?_) #[true, true, false, false, false, false, false, false, false] rfl rfl (take_ofW HT_.out HW_.out (by kernel_rfl)) (fun _ _ _ h => h) (Or.inl ⟨by rfl, ?_⟩) hHeld ?_ ?_
    rotate_left
    · rintro w' ⟨s0, s1, s2, s3, s4, s5⟩
      go_simp
      with_reducible rfl
    rotate_left
    · simp only [Act.put, List.setIfInBounds_toArray, List.set_cons_zero, List.set_cons_succ, i64_w, i32_w]
      rfl
    refine one_ (i := 2) (N := some 24) #[true, true, true, false, false, false, false, false, false] rfl rfl (one_of HT_.out (by kernel_rfl)) (by decide) (fun K hK => ?_)
    refine goes_ Try.func55 (by kernel_rfl) rfl #[] (by rfl) rfl rfl (by simp only [List.map_toArray, List.map_cons, List.map_nil]) ?_
    with_reducible refine (nobody_any _).mono ?_
    rintro e w4 ⟨rfl, hb⟩
    refine ⟨_, rfl, ?_⟩
    replace B7 := Aside0.mk (blk_below B7.out hb)
    replace HJ := Aside0.mk (HJ.out.step hb)
    clear hb
    refine hK.out _ _ ⟨(cells6 B7.out).1, (cells6 B7.out).2.1, (cells6 B7.out).2.2.1, (cells6 B7.out).2.2.2.1, (cells6 B7.out).2.2.2.2.1, (cells6 B7.out).2.2.2.2.2⟩ (fun hHeld => ?_)
    clear hK K
    refine norm_ (a' := ?_) ?_ ?_
    rotate_left
    · show Act.put _ (some 24) _ = _
      simp only [Act.put, List.setIfInBounds_toArray, List.set_cons_zero, List.set_cons_succ, i64_w, i32_w]
      rfl
    refine one_ (i := 3) (N := some 25) #[true, true, true, true, false, false, false, false, false] rfl rfl (one_of HT_.out (by kernel_rfl)) (by decide) (fun K hK => ?_)
    refine goes_ Try.func54 (by kernel_rfl) rfl #[.pointer (some ⟨jb, 0, none⟩), .agg #[.bool (offOf l 0), .bool (offOf l 1), .bool (offOf l 2), .bool (offOf l 3), .bool (offOf l 4), .bool (offOf l 5)], .agg #[.int .i64 (-1), .int .i64 0]] (by rfl) rfl rfl (by simp only [List.map_toArray, List.map_cons, List.map_nil]; rfl) ?_
    with_reducible refine (spans_any jb A0 c0 lots A1 c1 samples spread A3 c3 labs (.map (some mb)) (offOf l) (-1) 0 _ HJ.out.at hok.out (by omega) (by omega)).mono ?_
    rintro e w5 ⟨vs, rfl, hrow, hb⟩
    refine ⟨_, rfl, ?_⟩
    have HRow := Aside0.mk (Kd.R_lower hrow (below_step HB0.out HJ.out.hb).size)
    clear hrow
    replace B7 := Aside0.mk (blk_below B7.out hb)
    replace HJ := Aside0.mk (HJ.out.step hb)
    clear hb
    refine hK.out _ _ ⟨(cells6 B7.out).1, (cells6 B7.out).2.1, (cells6 B7.out).2.2.1, (cells6 B7.out).2.2.2.1, (cells6 B7.out).2.2.2.2.1, (cells6 B7.out).2.2.2.2.2⟩ (fun hHeld => ?_)
    clear hK K
    refine norm_ (a' := ?_) ?_ ?_
    rotate_left
    · show Act.put _ (some 25) _ = _
      simp only [Act.put, List.setIfInBounds_toArray, List.set_cons_zero, List.set_cons_succ, i64_w, i32_w]
      rfl
    refine pure_ (i := 4) (N := some 21) (v := ?_) (a' := ?_) #[true, true, true, true, true, false, false, false, false] rfl rfl (any_of HT_.out (by kernel_rfl)) (fun _ _ _ h => h) (Or.inl ⟨by rfl, ?_⟩) ?_ ?_
    rotate_left
    · intro w'
      go_simp
      with_reducible rfl
    rotate_left
    · simp only [Act.put, List.setIfInBounds_toArray, List.set_cons_zero, List.set_cons_succ, i64_w, i32_w]
      rfl
    refine pure_ (i := 5) (N := some 26) (v := ?_) (a' := ?_) #[true, true, true, true, true, true, false, false, false] rfl rfl (any_of HT_.out (by kernel_rfl)) (fun _ _ _ h => h) (Or.inl ⟨by rfl, ?_⟩) ?_ ?_
    rotate_left
    · intro w'
      go_simp
      with_reducible rfl
    rotate_left
    · simp only [Act.put, List.setIfInBounds_toArray, List.set_cons_zero, List.set_cons_succ, i64_w, i32_w]
      rfl
    refine pure_ (i := 6) (N := some 27) (v := ?_) (a' := ?_) #[true, true, true, true, true, true, true, false, false] rfl rfl (any_of HT_.out (by kernel_rfl)) (fun _ _ _ h => h) (Or.inl ⟨by rfl, ?_⟩) ?_ ?_
    rotate_left
    · intro w'
      go_simp
      with_reducible rfl
    rotate_left
    · simp only [Act.put, List.setIfInBounds_toArray, List.set_cons_zero, List.set_cons_succ, i64_w, i32_w]
      rfl
    refine pure_ (i := 7) (N := some 9) (v := ?_) (a' := ?_) #[true, true, true, true, true, true, true, true, false] rfl rfl (any_of HT_.out (by kernel_rfl)) (fun _ _ _ h => h) (Or.inl ⟨by rfl, ?_⟩) ?_ ?_
    rotate_left
    · intro w'
      go_simp
      with_reducible rfl
    rotate_left
    · simp only [Act.put, List.setIfInBounds_toArray, List.set_cons_zero, List.set_cons_succ, i64_w, i32_w]
      rfl
    refine pure_ (i := 8) (N := some 10) (v := ?_) (a' := ?_) #[true, true, true, true, true, true, true, true, true] rfl rfl (any_of HT_.out (by kernel_rfl)) (fun _ _ _ h => h) (Or.inl ⟨by rfl, ?_⟩) ?_ ?_
    rotate_left
    · intro w'
      go_simp
      with_reducible rfl
    rotate_left
    · simp only [Act.put, List.setIfInBounds_toArray, List.set_cons_zero, List.set_cons_succ, i64_w, i32_w]
      rfl
    refine done_ (done_of HT_.out (by kernel_rfl)) ?_

    clear hHeld
    have HB := Aside0.mk (below_step HB0.out HJ.out.hb)
    cases hcan : (spansF lots samples spread labs (offOf l) (-1) 0).2
    · obtain rfl := HX.out.1 hcan
      clear hcan HX
      go_wp2
      go_ret2
      exact ⟨_, rfl, Kd.R_nil _ _ _ _ _, HB.out⟩
    · obtain rfl := HX.out.2 hcan
      clear hcan HX
      go_wp2
      go_ret2
      exact ⟨_, rfl, HRow.out, HB.out⟩
  · have HC := Aside0.mk (asked_err A0 c0 lots A1 c1 samples spread A3 c3 labs B cB l (w.alloc (.cells #[.slice A0 lots.length c0, .slice A1 samples.length c1, .int .i64 spread, .slice A3 labs.length c3] 34)) (Kd.C_alloc hr0 _) (Kd.C_alloc hr1 _) (Kd.C_alloc hr3 _) (Kd.C_alloc hrB _) hl hc)
    have HX : spansR lots samples spread labs l = ([], askedE lots samples spread labs l) := by unfold spansR; rw [if_neg hc]
    rw [HX]
    have HB0 := Aside0.mk (below_alloc (Below.refl _ w) (.cells #[.slice A0 lots.length c0, .slice A1 samples.length c1, .int .i64 spread, .slice A3 labs.length c3] 34))
    clear hr0 hr1 hr3 hrB HX
    generalize askedE lots samples spread labs l = c at hc HC ⊢
    have hne : (c != 0) = true := bne_iff_ne.2 hc
    clear hc
    go_enter Try.func26, Try.ntmps26
    go_wp2_with (go_at_call 51; refine Aside0.out ?_)
    refine ⟨?_⟩
    refine HC.out.mono ?_
    clear HC
    rintro e w1 ⟨rfl, hb⟩
    replace HB0 := Aside0.mk (below_step HB0.out hb)
    clear hb
    go_wp2
    go_ret2
    exact ⟨_, rfl, Kd.R_nil _ _ _ _ _, below_alloc HB0.out _⟩
end Go.Proofs.Ytcpbhklaffgokaa.Q
