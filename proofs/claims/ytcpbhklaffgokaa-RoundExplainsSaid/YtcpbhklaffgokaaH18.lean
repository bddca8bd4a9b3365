import Derived.Test.YtcpbhklaffgokaaH17
namespace Go.Proofs.Ytcpbhklaffgokaa.Q
open Go.RowKit Go.Proofs.YtcpbhklaffgokaaW.PrintWords Go.Proofs.YtcpbhklaffgokaaW.PrintLast Go.Proofs.YtcpbhklaffgokaaW.PrintMore
set_option linter.unusedVariables false
set_option linter.unusedSimpArgs false
set_option maxHeartbeats 4000000 in
theorem index_any (v : Int) (xs : List Int) (A : Option Addr) (c : Nat) (w : World) (hr : Kd.C (Kd.int .i64) w A xs.length xs) (hlen : xs.length < 17592186044416) :
    Calls Try.prog 84 #[.slice A xs.length c, .int .i64 v] w (IdxPost (fun x => x == v) xs w) := by
  have HR := Aside0.mk hr
  clear hr
  go_enter Try.func84, Try.ntmps84
  go_wp2
  go_loopw [8] (fun i wr => ∃ k : Int, 0 ≤ k ∧ k ≤ xs.length ∧ i = .int .i64 k ∧ Aside0 (Below w.heap.size w wr) ∧ Aside0 ((xs.take k.toNat).any (fun x => x == v) = false)) (fun i _ => xs.length - (intOf i).toNat)
  case atStart => exact ⟨0, by omega, by omega, rfl, ⟨Below.refl _ _⟩, ⟨rfl⟩⟩
  case round =>
    obtain ⟨k, hk0, hk, rfl, HB, HQ⟩ := hrel
    by_cases hlt : k < xs.length
    · obtain ⟨ad, hA, hx0⟩ := Kd.at_int HR.out k (by omega) (by omega)
      have hw0 : wr.cell? (ad.add k.toNat) = _ := (HB.out.cell (World.block_lt_of_cell? w _ hx0)).trans hx0
      obtain rfl := hA
      clear hx0
      by_cases hq : rd xs k = v
      · have HQ1 : Aside0 ((fun x => x == v) (xs.getD k.toNat 0) = true) := ⟨by show (rd xs k == v) = true; rw [hq]; exact beq_self_eq_true v⟩
        have hv : (v == rd xs k) = true := by rw [hq]; exact beq_self_eq_true v
        clear hq
        go_wp2
        go_ret
        exact ⟨k, rfl, any_hit _ 0 xs k hk0 hlt HQ1.out, HB.out⟩
      · have HQ1 : Aside0 ((fun x => x == v) (xs.getD k.toNat 0) = false) := ⟨by show (rd xs k == v) = false; rw [beq_eq_false_iff_ne]; exact hq⟩
        have hv : (v == rd xs k) = false := by rw [beq_eq_false_iff_ne]; exact fun h => hq h.symm
        clear hq
        go_wp2
        exact ⟨⟨k + 1, by omega, by omega, rfl, HB, ⟨any_snoc _ 0 xs k hk0 hlt HQ.out HQ1.out⟩⟩, by simp [intOf]; omega⟩
    · go_wp2
      go_ret
      exact ⟨-1, rfl, any_none _ xs k (by omega) HQ.out, HB.out⟩
theorem contains_eq (v : Int) (xs : List Int) : (xs.any fun x => x == v) = xs.contains v := by
  rw [Bool.eq_iff_iff]
  simp
theorem contains_any (v : Int) (xs : List Int) (A : Option Addr) (c : Nat) (w : World) (hr : Kd.C (Kd.int .i64) w A xs.length xs) (hlen : xs.length < 17592186044416) :
    Calls Try.prog 64 #[.slice A xs.length c, .int .i64 v] w fun e w' => e = .returned (.bool (xs.contains v)) ∧ Below w.heap.size w w' := by
  have HC := Aside0.mk (index_any v xs A c w hr hlen)
  clear hr
  go_enter Try.func64, Try.ntmps64
  go_wp2_with (go_at_call 84; (with_reducible refine HC.out.mono ?_); rintro e w2 ⟨i, rfl, hi, hb⟩; replace hi := Aside0.mk hi; replace hb := Aside0.mk hb)
  go_ret
  exact ⟨by rw [← contains_eq, ← hi.out]; rfl, hb.out⟩
theorem has_any (v : Int) (bx : Nat) (xs : List Int) (A : Option Addr) (c : Nat) (w : World) (hbx : w.cell? ⟨bx, 0, none⟩ = some (.int .i64 v)) (hr : Kd.C (Kd.int .i64) w A xs.length xs) (hlen : xs.length < 17592186044416) :
    Calls Try.prog 63 #[.slice A xs.length c, .pointer (some ⟨bx, 0, none⟩)] w fun e w' => e = .returned (.bool (xs.contains v)) ∧ Below w.heap.size w w' := by
  have HC := Aside0.mk (contains_any v xs A c w hr hlen)
  generalize xs.contains v = b at HC ⊢
  clear hr
  go_enter Try.func63, Try.ntmps63
  go_wp2_with (go_at_call 64; (with_reducible refine HC.out.mono ?_); rintro e w2 ⟨rfl, hb⟩; replace hb := Aside0.mk hb)
  go_ret
  exact ⟨rfl, hb.out⟩
def convP (ls : List (List Int)) (k : Int) : Bool := ls.all fun l => l.contains k
def convL (ls : List (List Int)) : List Int := (ls.getD 0 []).filter (convP ls)
def convF (lots : List S46) (samples : List Int) (spread : Int) (labs : List S75) : List Int × Int :=
  if checkRound lots samples spread labs = 0 then (if convL (fewestF lots samples spread labs) = [] then ([], 7) else (convL (fewestF lots samples spread labs), 0)) else ([], checkRound lots samples spread labs)
theorem fromF_mem {can : List Int → Bool} {n : Nat} : ∀ {m : Nat} {l : List Int} {next : Nat} {y : List Int}, y ∈ fromF can n m l next → y.length = l.length + m := by
  intro m
  induction m with
  | zero =>
    intro l next y hy
    simp only [fromF] at hy
    split at hy
    · rw [List.mem_singleton.1 hy]; rfl
    · cases hy
  | succ m ih =>
    intro l next y hy
    simp only [fromF, List.mem_flatMap] at hy
    obtain ⟨k, _, hk⟩ := hy
    have := ih hk
    simp only [List.length_append, List.length_singleton] at this
    omega
theorem fewK_mem {can : List Int → Bool} {n : Nat} : ∀ {k : Nat} {y : List Int}, y ∈ fewK can n k → y.length < k := by
  intro k
  induction k with
  | zero => intro y hy; cases hy
  | succ k ih =>
    intro y hy
    simp only [fewK] at hy
    split at hy
    · have := fromF_mem hy; simp at this; omega
    · have := ih hy; omega
theorem filter_snoc (p : Int → Bool) (xs : List Int) (k : Int) (h0 : 0 ≤ k) (h : k < xs.length) : (xs.take (k + 1).toNat).filter p = (xs.take k.toNat).filter p ++ if p (rd xs k) = true then [rd xs k] else [] := by
  have h3 : k.toNat < xs.length := by omega
  have h4 : (k + 1).toNat = k.toNat + 1 := by omega
  rw [h4, List.take_succ_eq_append_getElem h3, List.filter_append]
  congr 1
  have : rd xs k = xs[k.toNat] := by simp [rd, List.getD_eq_getElem?_getD, List.getElem?_eq_getElem h3]
  rw [this]
  cases hp : p xs[k.toNat] <;> simp [hp]

set_option maxHeartbeats 4000000 in
set_option maxRecDepth 100000 in
theorem Convicted_bad (A0 : Option Addr) (c0 : Nat) (lots : List S46) (A1 : Option Addr) (c1 : Nat) (samples : List Int) (spread : Int) (A3 : Option Addr) (c3 : Nat) (labs : List S75) (w : World) (hr0 : Kd.C k46 w A0 lots.length lots) (hr1 : (Kd.int .i64).C w A1 samples.length samples) (hr3 : Kd.C k75 w A3 labs.length labs) (hc : checkRound lots samples spread labs ≠ 0) :
    Calls Try.prog 38 #[.agg #[.slice A0 lots.length c0, .slice A1 samples.length c1, .int .i64 spread, .slice A3 labs.length c3]] w (LPost w ([], checkRound lots samples spread labs)) := by
  have HC := Aside0.mk (judge_bad A0 c0 lots A1 c1 samples spread A3 c3 labs (w.alloc (.cells #[.slice A0 lots.length c0, .slice A1 samples.length c1, .int .i64 spread, .slice A3 labs.length c3] 34)) (Kd.C_alloc hr0 _) (Kd.C_alloc hr1 _) (Kd.C_alloc hr3 _) hc)
  have HB0 := Aside0.mk (below_alloc (Below.refl _ w) (.cells #[.slice A0 lots.length c0, .slice A1 samples.length c1, .int .i64 spread, .slice A3 labs.length c3] 34))
  clear hr0 hr1 hr3
  generalize checkRound lots samples spread labs = c at hc HC ⊢
  have hne : (c != 0) = true := bne_iff_ne.2 hc
  clear hc
  go_enter Try.func38, Try.ntmps38
  go_wp2_with (go_at_call 57; refine Aside0.out ?_)
  refine ⟨?_⟩
  refine HC.out.mono ?_
  clear HC
  rintro e w1 ⟨rfl, hb⟩
  replace HB0 := Aside0.mk (below_step HB0.out hb)
  clear hb
  go_wp2
  go_ret2
  exact ⟨_, rfl, Kd.R_nil _ _ _ _ _, HB0.out⟩

set_option maxHeartbeats 8000000 in
set_option maxRecDepth 100000 in
theorem Convicted_ok (A0 : Option Addr) (c0 : Nat) (lots : List S46) (A1 : Option Addr) (c1 : Nat) (samples : List Int) (spread : Int) (A3 : Option Addr) (c3 : Nat) (labs : List S75) (w : World) (hr0 : Kd.C k46 w A0 lots.length lots) (hr1 : (Kd.int .i64).C w A1 samples.length samples) (hr3 : Kd.C k75 w A3 labs.length labs) (hc : checkRound lots samples spread labs = 0) (hne : 0 < (fewestF lots samples spread labs).length) (r : List Int × Int) (hr : r = if convL (fewestF lots samples spread labs) = [] then ([], 7) else (convL (fewestF lots samples spread labs), 0)) :
    Calls Try.prog 38 #[.agg #[.slice A0 lots.length c0, .slice A1 samples.length c1, .int .i64 spread, .slice A3 labs.length c3]] w (LPost w r) := by
  have HRr := Aside0.mk hr
  have HC := Aside0.mk (judge_ok A0 c0 lots A1 c1 samples spread A3 c3 labs (w.alloc (.cells #[.slice A0 lots.length c0, .slice A1 samples.length c1, .int .i64 spread, .slice A3 labs.length c3] 34)) (Kd.C_alloc hr0 _) (Kd.C_alloc hr1 _) (Kd.C_alloc hr3 _) hc)
  have HB0 := Aside0.mk (below_alloc (Below.refl _ w) (.cells #[.slice A0 lots.length c0, .slice A1 samples.length c1, .int .i64 spread, .slice A3 labs.length c3] 34))
  have hok := Aside0.mk (roundOk_of_check hc)
  have HLen : (fewestF lots samples spread labs).length ≤ 46656 := fewK_length _ _ hok.out.b6 _ (by have := hok.out.b6; omega)
  have HNe := Aside0.mk hne
  have HLl : Aside0 (∀ y ∈ fewestF lots samples spread labs, y.length < 17592186044416) := ⟨fun y hy => by have := fewK_mem hy; have := hok.out.b6; omega⟩
  clear hr0 hr1 hr3 hc hr hne
  go_enter Try.func38, Try.ntmps38
  go_wp2_with (go_at_call 57; refine Aside0.out ?_)
  refine ⟨?_⟩
  refine HC.out.mono ?_
  clear HC
  rintro e w1 ⟨jb, mb, rfl, hj⟩
  have HF := Aside0.mk (fewest_any _ jb mb A0 c0 lots A1 c1 samples spread A3 c3 labs w1 hj hok.out)
  clear hj
  go_wp2_with (go_at_call 58; refine Aside0.out ?_)
  refine ⟨?_⟩
  refine HF.out.mono ?_
  clear HF
  rintro e w2 ⟨v, rfl, hj2, hr2⟩
  generalize fewestF lots samples spread labs = ls at hr2 HLen HNe HRr HLl ⊢
  obtain ⟨g, n, c, u, rfl, hn, hnl, hcell, hu⟩ := first_list hr2 HNe.out
  have HB := Aside0.mk (below_step HB0.out hj2.hb)
  have HLs := Aside0.mk (Kd.R_lower (Kd.R_mono (Kd.R_bound hr2) (fun q hq => hq.2.2.1)) (show w.heap.size ≤ _ by simp))
  have HU := Aside0.mk (Kd.R_lower (Kd.R_mono (Kd.R_bound hu) (fun q hq => hq.2.2.1)) (show w.heap.size ≤ _ by simp))
  generalize hl0 : ls.getD 0 [] = l0 at HU
  have HL0 := Aside0.mk hl0
  subst hnl
  obtain ⟨Au, nu, cu, rfl, hnu⟩ : ∃ A n c, u = .slice A n c ∧ n = l0.length := by obtain ⟨A, c, h⟩ := Kd.R_slice HU.out; exact ⟨A, _, c, h, rfl⟩
  subst hnu
  have hM : w.heap.size ≤ w2.heap.size := HB.out.size
  have hl0b : l0.length < 17592186044416 := by rw [← HL0.out, List.getD_eq_getElem?_getD, List.getElem?_eq_getElem HNe.out]; exact HLl.out _ (List.getElem_mem _)
  clear hr2 hj2 hu hl0 HB0
  go_wp2
  go_loopw [7, 24] (fun o q wr => ∃ (k : Int) (Ao : Option Addr) (no co : Nat), 0 ≤ k ∧ k ≤ l0.length ∧ q = .int .i64 k ∧ o = .slice Ao no co ∧ (no : Int) ≤ k ∧ Aside0 (no = ((l0.take k.toNat).filter (convP ls)).length) ∧ Aside0 (Below w2.heap.size w2 wr) ∧ Aside0 (Kd.R (Kd.int .i64) 3 wr w2.heap.size (fun _ => True) (.slice Ao no co) ((l0.take k.toNat).filter (convP ls))) ∧ Aside0 (Kd.R kll 23 wr w.heap.size (fun q => q < w2.heap.size) (.slice (some ⟨g, 0, none⟩) ls.length c) ls) ∧ Aside0 (Kd.R (Kd.int .i64) 3 wr w.heap.size (fun q => q < w2.heap.size) (.slice Au l0.length cu) l0)) (fun _ q _ => l0.length - (intOf q).toNat)
  case atStart => exact ⟨0, none, 0, 0, by omega, by omega, rfl, rfl, by omega, ⟨rfl⟩, ⟨Below.refl _ _⟩, ⟨Kd.R_nil _ _ _ _ _⟩, HLs, HU⟩
  case round =>
    obtain ⟨k, Ao, no, co, hk0, hk1, rfl, rfl, hno, HNo, HSz, HO, HLs, HU⟩ := hrel
    by_cases hlt : k < l0.length
    · obtain ⟨ad, hA, hx0⟩ := Kd.at_int (Kd.R_reads' HU.out).2.2 k (by omega) (by omega)
      obtain rfl := hA
      have HT := Aside0.mk (filter_snoc (convP ls) l0 k hk0 hlt)
      have B9 := Aside0.mk (blk_new wr (.cells #[.int .i64 (rd l0 k)] 3))
      have HOa := Aside0.mk (Kd.R_below HO.out (below_alloc (Below.refl _ wr) (.cells #[.int .i64 (rd l0 k)] 3)))
      have HLa := Aside0.mk (Kd.R_below HLs.out (below_alloc (Below.refl _ wr) (.cells #[.int .i64 (rd l0 k)] 3)))
      have HUa := Aside0.mk (Kd.R_below HU.out (below_alloc (Below.refl _ wr) (.cells #[.int .i64 (rd l0 k)] 3)))
      have HSa := Aside0.mk (below_alloc HSz.out (.cells #[.int .i64 (rd l0 k)] 3))
      go_wp2_with (go_at_call 62; refine Aside0.out ?_)
      refine ⟨?_⟩
      clear hx0
      generalize wr.alloc (.cells #[.int .i64 (rd l0 k)] 3) = w3 at B9 HOa HLa HUa HSa ⊢
      generalize wr.heap.size = g9 at B9 ⊢
      generalize hx : rd l0 k = x at HT B9 ⊢
      have HALL : Calls Try.prog 62 #[.slice (some ⟨g, 0, none⟩) ls.length c, .func (.func 63) #[] #[.pointer (some ⟨g9, 0, none⟩)]] w3 fun e w' => e = .returned (.bool (convP ls x)) ∧ Below w3.heap.size w3 w' :=
        all23_63 (rb := g9) (fun l => l.contains x) ls (some ⟨g, 0, none⟩) c w3 (Kd.R_reads' HLa.out).2.2 (by omega) (fun y hy w4 hw4 A1 c1 hc1 hC1 => has_any x g9 y A1 c1 w4 ((blk_cell (blk_below B9.out hw4) 0).trans rfl) hC1 (HLl.out y hy))
      cases hp : convP ls x
      all_goals
        rw [hp] at HALL
        refine HALL.mono ?_
        clear HALL
        rintro e w4 ⟨rfl, hb⟩
        have HO4 := Aside0.mk (Kd.R_below HOa.out hb)
        have HL4 := Aside0.mk (Kd.R_below HLa.out hb)
        have HU4 := Aside0.mk (Kd.R_below HUa.out hb)
        have HS4 := Aside0.mk (below_step HSa.out hb)
        have B94 := Aside0.mk (blk_below B9.out hb)
        clear hb HOa HLa HUa HSa B9 HO HLs HU
      · have HT2 : Aside0 ((l0.take (k + 1).toNat).filter (convP ls) = (l0.take k.toNat).filter (convP ls)) := ⟨by rw [HT.out, hp, if_neg Bool.false_ne_true, List.append_nil]⟩
        clear hp
        go_wp2
        exact ⟨⟨k + 1, Ao, no, co, by omega, by omega, rfl, rfl, by omega, ⟨by rw [HT2.out]; exact HNo.out⟩, HS4, ⟨by rw [HT2.out]; exact HO4.out⟩, HL4, HU4⟩, by simp only [intOf]; omega⟩
      · have HT2 : Aside0 ((l0.take (k + 1).toNat).filter (convP ls) = (l0.take k.toNat).filter (convP ls) ++ [x]) := ⟨by rw [HT.out, hp, if_pos rfl]⟩
        clear hp
        have e9 := (blk_cell B94.out 0).trans rfl
        go_wp2_with (((with_reducible refine gate_builtin (b := .append) (xs := #[.tmp 31, .tmp 33]) rfl ?_); at_builtin; refine Aside0.out ?_))
        refine ⟨?_⟩
        have hln : ((l0.take k.toNat).filter (convP ls)).length = no := HNo.out.symm
        refine Kd.R_append (Kd.int .i64) (w0 := w2) w2.heap.size rfl (.tmp 31) (.tmp 33) 23 3 (.int .i64 0) 8 rfl Try.underlying23 info3 rfl (by decide) (by omega) (.slice Ao no co) ((l0.take k.toNat).filter (convP ls)) x [.int .i64 x] (fun _ => True) (fun _ => False) rfl rfl rfl (fun _ h => h.elim) (fun _ _ => trivial) HO4.out HS4.out HS4.out.size (by omega) ?_
        intro v5 w5 ho5 hb5 hg5 hat5
        obtain ⟨A5, n5, c5, hv5⟩ : ∃ A n c, v5 = .slice A n c ∧ n = ((l0.take k.toNat).filter (convP ls) ++ [x]).length := by obtain ⟨A, c, h⟩ := Kd.R_slice ho5; exact ⟨A, _, c, h, rfl⟩
        obtain ⟨rfl, hn5⟩ := hv5
        have hn6 : n5 = no + 1 := by rw [hn5, List.length_append, hln]; rfl
        subst hn6
        have HO5 := Aside0.mk ho5
        have HS5 := Aside0.mk hb5
        have HL5 := Aside0.mk (Kd.R_grown HL4.out hg5 (fun q hq he => by have := Kd.R_base HO4.out q he.symm; omega))
        have HU5 := Aside0.mk (Kd.R_grown HU4.out hg5 (fun q hq he => by have := Kd.R_base HO4.out q he.symm; omega))
        replace hn5 := Aside0.mk hn5
        clear ho5 hb5 hg5 hat5 hln HO4 HS4 HL4 HU4 e9
        go_wp2
        exact ⟨⟨k + 1, A5, no + 1, c5, by omega, by omega, rfl, rfl, by omega, ⟨by rw [HT2.out]; exact hn5.out⟩, HS5, ⟨by rw [HT2.out]; exact HO5.out⟩, HL5, HU5⟩, by simp only [intOf]; omega⟩
    · have hk : k = l0.length := by omega
      have HT : Aside0 ((l0.take k.toNat).filter (convP ls) = convL ls) := ⟨by rw [hk, Int.toNat_natCast, List.take_length]; unfold convL; rw [HL0.out]⟩
      rw [HT.out] at HO HNo
      have HFB := Aside0.mk (below_step HB.out HSz.out)
      by_cases hz : no = 0
      · have hnil : convL ls = [] := List.eq_nil_of_length_eq_zero (by have := HNo.out; omega)
        obtain rfl : r = ([], 7) := by rw [HRr.out, if_pos hnil]
        have hz0 : ((no : Int) == 0) = true := by rw [beq_iff_eq]; omega
        clear hz hnil hk
        go_wp2
        go_ret2
        exact ⟨_, rfl, Kd.R_nil _ _ _ _ _, HFB.out⟩
      · have hnil : convL ls ≠ [] := fun e => by have := HNo.out; rw [e] at this; simp at this; omega
        obtain rfl : r = (convL ls, 0) := by rw [HRr.out, if_neg hnil]
        have hz0 : ((no : Int) == 0) = false := by rw [beq_eq_false_iff_ne]; omega
        clear hz hnil hk
        go_wp2
        go_ret2
        exact ⟨_, rfl, Kd.R_lower HO.out hM, HFB.out⟩
theorem Convicted_any (A0 : Option Addr) (c0 : Nat) (lots : List S46) (A1 : Option Addr) (c1 : Nat) (samples : List Int) (spread : Int) (A3 : Option Addr) (c3 : Nat) (labs : List S75) (w : World) (hr0 : Kd.C k46 w A0 lots.length lots) (hr1 : (Kd.int .i64).C w A1 samples.length samples) (hr3 : Kd.C k75 w A3 labs.length labs) (hne : checkRound lots samples spread labs = 0 → 0 < (fewestF lots samples spread labs).length) :
    Calls Try.prog 38 #[.agg #[.slice A0 lots.length c0, .slice A1 samples.length c1, .int .i64 spread, .slice A3 labs.length c3]] w (LPost w (convF lots samples spread labs)) := by
  by_cases hc : checkRound lots samples spread labs = 0
  · unfold convF
    rw [if_pos hc]
    exact Convicted_ok _ _ _ _ _ _ _ _ _ _ w hr0 hr1 hr3 hc (hne hc) _ rfl
  · unfold convF
    rw [if_neg hc]
    exact Convicted_bad _ _ _ _ _ _ _ _ _ _ w hr0 hr1 hr3 hc
end Go.Proofs.Ytcpbhklaffgokaa.Q
