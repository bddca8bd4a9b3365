import Derived.Test.YtcpbhklaffgokaaH11
namespace Go.Proofs.Ytcpbhklaffgokaa.Q
open Go.RowKit Go.Proofs.YtcpbhklaffgokaaW.PrintWords Go.Proofs.YtcpbhklaffgokaaW.PrintLast Go.Proofs.YtcpbhklaffgokaaW.PrintMore
set_option linter.unusedVariables false
set_option linter.unusedSimpArgs false
def oneOff (lab : Int) (j : Nat) : Bool := false || decide (j = lab.toNat)
theorem one_set (lab : Int) (h : lab.toNat < 6) : (#[.bool false, .bool false, .bool false, .bool false, .bool false, .bool false] : Array Value).setIfInBounds lab.toNat (.bool true) = #[.bool (oneOff lab 0), .bool (oneOff lab 1), .bool (oneOff lab 2), .bool (oneOff lab 3), .bool (oneOff lab 4), .bool (oneOff lab 5)] := off_set (fun _ => false) lab.toNat h
def canS (lots : List S46) (samples : List Int) (spread : Int) (labs : List S75) (lab d : Int) : Bool := (spansF lots samples spread labs (fun _ => false) lab d).2
def shK (can : Int → Bool) : Nat → S46
  | 0 => { f0 := 1073741824, f1 := -1073741824 }
  | k + 1 => if can ((k : Int) - 2000) = true then { f0 := min (shK can k).f0 ((k : Int) - 2000), f1 := (k : Int) - 2000 } else shK can k
def shiftsF (lots : List S46) (samples : List Int) (spread : Int) (labs : List S75) (lab : Int) : S46 × Int :=
  if checkRound lots samples spread labs ≠ 0 then ({ f0 := 0, f1 := 0 }, checkRound lots samples spread labs)
  else if withinB lab 0 ((labs.length : Int) - 1) = false then ({ f0 := 0, f1 := 0 }, 2)
  else if canF lots samples spread labs (oneOff lab) = false then ({ f0 := 0, f1 := 0 }, 9)
  else if (shK (canS lots samples spread labs lab) 4001).f0 = 1073741824 ∧ (shK (canS lots samples spread labs lab) 4001).f1 = -1073741824 then ({ f0 := 0, f1 := 0 }, 7)
  else (shK (canS lots samples spread labs lab) 4001, 0)
theorem shiftsF_a {lots : List S46} {samples : List Int} {spread : Int} {labs : List S75} {lab : Int} (h0 : checkRound lots samples spread labs = 0) (h1 : withinB lab 0 ((labs.length : Int) - 1) = false) : shiftsF lots samples spread labs lab = ({ f0 := 0, f1 := 0 }, 2) := by
  unfold shiftsF
  rw [if_neg (by simp [h0]), if_pos h1]
theorem shiftsF_b {lots : List S46} {samples : List Int} {spread : Int} {labs : List S75} {lab : Int} (h0 : checkRound lots samples spread labs = 0) (h1 : withinB lab 0 ((labs.length : Int) - 1) = true) (h2 : canF lots samples spread labs (oneOff lab) = false) : shiftsF lots samples spread labs lab = ({ f0 := 0, f1 := 0 }, 9) := by
  unfold shiftsF
  rw [if_neg (by simp [h0]), if_neg (by simp [h1]), if_pos h2]
theorem shiftsF_c {lots : List S46} {samples : List Int} {spread : Int} {labs : List S75} {lab : Int} (h0 : checkRound lots samples spread labs = 0) (h1 : withinB lab 0 ((labs.length : Int) - 1) = true) (h2 : canF lots samples spread labs (oneOff lab) = true)
    (h3 : (shK (canS lots samples spread labs lab) 4001).f0 = 1073741824 ∧ (shK (canS lots samples spread labs lab) 4001).f1 = -1073741824) : shiftsF lots samples spread labs lab = ({ f0 := 0, f1 := 0 }, 7) := by
  unfold shiftsF
  rw [if_neg (by simp [h0]), if_neg (by simp [h1]), if_neg (by simp [h2]), if_pos h3]
theorem shiftsF_d {lots : List S46} {samples : List Int} {spread : Int} {labs : List S75} {lab : Int} (h0 : checkRound lots samples spread labs = 0) (h1 : withinB lab 0 ((labs.length : Int) - 1) = true) (h2 : canF lots samples spread labs (oneOff lab) = true)
    (h3 : ¬ ((shK (canS lots samples spread labs lab) 4001).f0 = 1073741824 ∧ (shK (canS lots samples spread labs lab) 4001).f1 = -1073741824)) : shiftsF lots samples spread labs lab = (shK (canS lots samples spread labs lab) 4001, 0) := by
  unfold shiftsF
  rw [if_neg (by simp [h0]), if_neg (by simp [h1]), if_neg (by simp [h2]), if_neg h3]
def ShPost (w : World) (r : S46 × Int) (e : Ending) (w' : World) : Prop := e = .returned (.tuple #[.agg #[.int .i64 r.1.f0, .int .i64 r.1.f1], .int .i64 r.2]) ∧ Below w.heap.size w w'
theorem put2 {W : World} {g : Nat} {a b : Value} {t : TypeId} (h : W.heap[g]? = some (.cells #[a, b] t (0, 0))) (u0 u1 : Value) : ((W.setCell ⟨g, 0, none⟩ u0).setCell ⟨g, 1, none⟩ u1).heap[g]? = some (.cells #[u0, u1] t (0, 0)) :=
  blk_put (blk_put h 0 u0 rfl) 1 u1 rfl
theorem cells2 {W : World} {g : Nat} {a b : Value} {t : TypeId} (h : W.heap[g]? = some (.cells #[a, b] t (0, 0))) : W.cell? ⟨g, 0, none⟩ = some a ∧ W.cell? ⟨g, 1, none⟩ = some b := ⟨(blk_cell h 0).trans rfl, (blk_cell h 1).trans rfl⟩
set_option maxHeartbeats 4000000 in
set_option maxRecDepth 100000 in
theorem shifts_bad (A0 : Option Addr) (c0 : Nat) (lots : List S46) (A1 : Option Addr) (c1 : Nat) (samples : List Int) (spread : Int) (A3 : Option Addr) (c3 : Nat) (labs : List S75) (lab : Int) (w : World) (hr0 : Kd.C k46 w A0 lots.length lots) (hr1 : (Kd.int .i64).C w A1 samples.length samples) (hr3 : Kd.C k75 w A3 labs.length labs) (hc : checkRound lots samples spread labs ≠ 0) :
    Calls Try.prog 32 #[.agg #[.slice A0 lots.length c0, .slice A1 samples.length c1, .int .i64 spread, .slice A3 labs.length c3], .int .i64 lab] w (ShPost w ({ f0 := 0, f1 := 0 }, checkRound lots samples spread labs)) := by
  have HC := Aside0.mk (judge_bad A0 c0 lots A1 c1 samples spread A3 c3 labs ((w.alloc (.cells #[.slice A0 lots.length c0, .slice A1 samples.length c1, .int .i64 spread, .slice A3 labs.length c3] 34)).alloc (.cells #[.int .i64 0, .int .i64 0] 46)) (Kd.C_alloc (Kd.C_alloc hr0 _) _) (Kd.C_alloc (Kd.C_alloc hr1 _) _) (Kd.C_alloc (Kd.C_alloc hr3 _) _) hc)
  have B4 := blk_new (w.alloc (.cells #[.slice A0 lots.length c0, .slice A1 samples.length c1, .int .i64 spread, .slice A3 labs.length c3] 34)) (.cells #[.int .i64 0, .int .i64 0] 46)
  rw [World.size_alloc] at B4
  replace B4 := Aside0.mk B4
  clear hr0 hr1 hr3
  generalize checkRound lots samples spread labs = c at hc HC ⊢
  have hne : (c != 0) = true := bne_iff_ne.2 hc
  clear hc
  go_enter Try.func32, Try.ntmps32
  go_wp2_with (go_at_call 57; refine Aside0.out ?_)
  refine ⟨?_⟩
  refine HC.out.mono ?_
  clear HC
  rintro e w1 ⟨rfl, hb⟩
  have HB := Aside0.mk (below_step (below_alloc (below_alloc (Below.refl _ _) _) _) hb)
  replace B4 := Aside0.mk (blk_below B4.out hb)
  clear hb
  obtain ⟨q0, q1⟩ := cells2 B4.out
  have z0 := blk_frozen B4.out 0
  have z1 := blk_frozen B4.out 1
  go_wp2
  refine bodyPost_ret (results_ct rfl _ _ (w.heap.size + 1) 46 _ (0, 0) _ rfl (put2 B4.out _ _) rfl rfl rfl) rfl ?_
  exact ⟨rfl, below_set (below_set HB.out (by omega)) (by omega)⟩

set_option maxHeartbeats 8000000 in
set_option maxRecDepth 100000 in
theorem shifts_ok (A0 : Option Addr) (c0 : Nat) (lots : List S46) (A1 : Option Addr) (c1 : Nat) (samples : List Int) (spread : Int) (A3 : Option Addr) (c3 : Nat) (labs : List S75) (lab : Int) (w : World) (hr0 : Kd.C k46 w A0 lots.length lots) (hr1 : (Kd.int .i64).C w A1 samples.length samples) (hr3 : Kd.C k75 w A3 labs.length labs) (hc : checkRound lots samples spread labs = 0) (r : S46 × Int) (hr : shiftsF lots samples spread labs lab = r) :
    Calls Try.prog 32 #[.agg #[.slice A0 lots.length c0, .slice A1 samples.length c1, .int .i64 spread, .slice A3 labs.length c3], .int .i64 lab] w (ShPost w r) := by
  have HC := Aside0.mk (judge_ok A0 c0 lots A1 c1 samples spread A3 c3 labs ((w.alloc (.cells #[.slice A0 lots.length c0, .slice A1 samples.length c1, .int .i64 spread, .slice A3 labs.length c3] 34)).alloc (.cells #[.int .i64 0, .int .i64 0] 46)) (Kd.C_alloc (Kd.C_alloc hr0 _) _) (Kd.C_alloc (Kd.C_alloc hr1 _) _) (Kd.C_alloc (Kd.C_alloc hr3 _) _) hc)
  have hok := roundOk_of_check hc
  have b6 := hok.b6
  replace hok := Aside0.mk hok
  have HR := Aside0.mk (And.intro hr0 (And.intro hr1 hr3))
  have HS := Aside0.mk hr
  have HB0 := Aside0.mk (below_alloc (below_alloc (Below.refl _ w) (.cells #[.slice A0 lots.length c0, .slice A1 samples.length c1, .int .i64 spread, .slice A3 labs.length c3] 34)) (.cells #[.int .i64 0, .int .i64 0] 46))
  have B4 := blk_new (w.alloc (.cells #[.slice A0 lots.length c0, .slice A1 samples.length c1, .int .i64 spread, .slice A3 labs.length c3] 34)) (.cells #[.int .i64 0, .int .i64 0] 46)
  rw [World.size_alloc] at B4
  replace B4 := Aside0.mk B4
  have B2 := Aside0.mk (blk_alloc (blk_new w (.cells #[.slice A0 lots.length c0, .slice A1 samples.length c1, .int .i64 spread, .slice A3 labs.length c3] 34)) (.cells #[.int .i64 0, .int .i64 0] 46))
  have hsz : ((w.alloc (.cells #[.slice A0 lots.length c0, .slice A1 samples.length c1, .int .i64 spread, .slice A3 labs.length c3] 34)).alloc (.cells #[.int .i64 0, .int .i64 0] 46)).heap.size = w.heap.size + 2 := by simp
  replace hc := Aside0.mk hc
  clear hr0 hr1 hr3 hr
  go_enter Try.func32, Try.ntmps32
  go_wp2_with (go_at_call 57; refine Aside0.out ?_)
  refine ⟨?_⟩
  refine HC.out.mono ?_
  clear HC
  generalize ((w.alloc (.cells #[.slice A0 lots.length c0, .slice A1 samples.length c1, .int .i64 spread, .slice A3 labs.length c3] 34)).alloc (.cells #[.int .i64 0, .int .i64 0] 46)) = w0 at hsz HB0 B4 B2 ⊢
  rintro e w1 ⟨jb, mb, rfl, hj⟩
  have HJW := Aside0.mk hj
  replace B4 := Aside0.mk (blk_below B4.out hj.hb)
  replace B2 := Aside0.mk (blk_below B2.out hj.hb)
  have hg1 : w0.heap.size ≤ w1.heap.size := hj.hb.size
  have hjg : jb < w1.heap.size := blk_lt hj.blk
  have hmg : mb < w1.heap.size := by obtain ⟨es, c, h, _⟩ := hj.map; exact blk_lt h
  have hjw := hj.gj
  have hmw := hj.gm
  clear hj
  obtain ⟨p0, p1, p2, p3⟩ := cells4 B2.out
  obtain ⟨q0, q1⟩ := cells2 B4.out
  have z0 := blk_frozen B4.out 0
  have z1 := blk_frozen B4.out 1
  have HW := Aside0.mk (within_any lab 0 ((labs.length : Int) - 1))
  cases hW : withinB lab 0 ((labs.length : Int) - 1)
  · simp only [hW] at HW
    obtain rfl : r = ({ f0 := 0, f1 := 0 }, 2) := HS.out.symm.trans (shiftsF_a hc.out hW)
    have HB := Aside0.mk (below_step HB0.out HJW.out.hb)
    clear hW HS
    go_wp2_with (go_at_call 44; (with_reducible refine (HW.out _).mono ?_); rintro e w' ⟨rfl, rfl⟩)
    (try simp only [Exit.inBlock, Exit.then])
    refine bodyPost_ret (results_ct rfl _ _ (w.heap.size + 1) 46 _ (0, 0) _ rfl (put2 B4.out _ _) rfl rfl rfl) rfl ?_
    exact ⟨rfl, below_set (below_set HB.out (by omega)) (by omega)⟩
  simp only [hW] at HW
  have hx : 0 ≤ lab ∧ lab ≤ (labs.length : Int) - 1 := by simpa [withinB] using hW
  obtain ⟨hx0, hx1⟩ := hx
  replace hW := Aside0.mk hW
  replace HJW := Aside0.mk (HJW.out.step (below_alloc (Below.refl _ w1) (.cells #[.bool (oneOff lab 0), .bool (oneOff lab 1), .bool (oneOff lab 2), .bool (oneOff lab 3), .bool (oneOff lab 4), .bool (oneOff lab 5)] 85)))
  replace B4 := Aside0.mk (blk_alloc B4.out (.cells #[.bool (oneOff lab 0), .bool (oneOff lab 1), .bool (oneOff lab 2), .bool (oneOff lab 3), .bool (oneOff lab 4), .bool (oneOff lab 5)] 85))
  clear q0 q1 z0 z1
  have hset : ([.bool false, .bool false, .bool false, .bool false, .bool false, .bool false] : List Value).set lab.toNat (.bool true) = [.bool (oneOff lab 0), .bool (oneOff lab 1), .bool (oneOff lab 2), .bool (oneOff lab 3), .bool (oneOff lab 4), .bool (oneOff lab 5)] := by
    have h := congrArg Array.toList (one_set lab (by omega))
    simpa using h
  have B8 := Aside0.mk (blk_new w1 (.cells #[.bool false, .bool false, .bool false, .bool false, .bool false, .bool false] 85))
  go_wp2_with (first | (go_at_call 44; (with_reducible refine (HW.out _).mono ?_); rintro e w' ⟨rfl, rfl⟩; have q8 := (blk_cell B8.out lab.toNat).trans (off_at (fun _ => false) lab.toNat (by omega)); have z8 := blk_frozen B8.out lab.toNat) | (go_at_call 52; refine Aside0.out ?_))
  clear hset q8 z8 B8
  refine ⟨?_⟩
  have hg2 : w1.heap.size ≤ (w1.alloc (.cells #[.bool (oneOff lab 0), .bool (oneOff lab 1), .bool (oneOff lab 2), .bool (oneOff lab 3), .bool (oneOff lab 4), .bool (oneOff lab 5)] 85)).heap.size := by simp
  generalize w1.alloc (.cells #[.bool (oneOff lab 0), .bool (oneOff lab 1), .bool (oneOff lab 2), .bool (oneOff lab 3), .bool (oneOff lab 4), .bool (oneOff lab 5)] 85) = w2 at hg2 HJW B4 ⊢
  refine (explain_any _ jb mb A0 c0 lots A1 c1 samples spread A3 c3 labs (oneOff lab) w2 HJW.out hok.out).mono ?_
  rintro e w3 ⟨rfl, hj3, hk3⟩
  replace HJW := Aside0.mk hj3
  replace B4 := Aside0.mk ((hk3.block (w.heap.size + 1) (blk_lt B4.out) (by omega)).trans B4.out)
  replace hg1 : w0.heap.size ≤ w3.heap.size := by have := hk3.size; omega
  replace hjg : jb < w3.heap.size := blk_lt hj3.blk
  replace hmg : mb < w3.heap.size := by obtain ⟨es, c, h, _⟩ := hj3.map; exact blk_lt h
  clear hj3 hk3 hg2
  have HB := Aside0.mk (below_step HB0.out HJW.out.hb)
  cases hcan : canF lots samples spread labs (oneOff lab)
  · obtain rfl : r = ({ f0 := 0, f1 := 0 }, 9) := HS.out.symm.trans (shiftsF_b hc.out hW.out hcan)
    obtain ⟨q0, q1⟩ := cells2 B4.out
    have z0 := blk_frozen B4.out 0
    have z1 := blk_frozen B4.out 1
    clear hcan HS
    go_wp2
    (try simp only [Exit.inBlock, Exit.then])
    refine bodyPost_ret (results_ct rfl _ _ (w.heap.size + 1) 46 _ (0, 0) _ rfl (put2 B4.out _ _) rfl rfl rfl) rfl ?_
    exact ⟨rfl, below_set (below_set HB.out (by omega)) (by omega)⟩
  replace hcan := Aside0.mk hcan
  have B9 := Aside0.mk (blk_new w3 (.cells #[.int .i64 1073741824, .int .i64 (-1073741824)] 46))
  replace HJW := Aside0.mk (HJW.out.step (below_alloc (Below.refl _ w3) (.cells #[.int .i64 1073741824, .int .i64 (-1073741824)] 46)))
  replace B4 := Aside0.mk (blk_alloc B4.out (.cells #[.int .i64 1073741824, .int .i64 (-1073741824)] 46))
  go_wp2
  generalize w3.alloc (.cells #[.int .i64 1073741824, .int .i64 (-1073741824)] 46) = w4 at HJW B4 B9 ⊢
  generalize w3.heap.size = g9 at hg1 hjg hmg B9 ⊢
  have HCN := Aside0.mk (show canS lots samples spread labs lab = canS lots samples spread labs lab from rfl)
  go_loopw [10] (fun q wr => ∃ k : Int, 0 ≤ k ∧ k ≤ 4001 ∧ q = .int .i64 (k - 2000) ∧ Aside0 (JW w0 jb mb A0 c0 lots A1 c1 samples spread A3 c3 labs wr) ∧ Aside0 (wr.heap[g9]? = some (.cells #[.int .i64 (shK (canS lots samples spread labs lab) k.toNat).f0, .int .i64 (shK (canS lots samples spread labs lab) k.toNat).f1] 46 (0, 0))) ∧ Aside0 (wr.heap[w.heap.size + 1]? = some (.cells #[.int .i64 0, .int .i64 0] 46 (0, 0)))) (fun q _ => (2001 - intOf q).toNat)
  case atStart => exact ⟨0, by omega, by omega, rfl, HJW, B9, B4⟩
  case round =>
    obtain ⟨k, hk0, hk, rfl, HJW, B9, B4⟩ := hrel
    by_cases hlt : k ≤ 4000
    · have HK1 : Aside0 ((k + 1).toNat = k.toNat + 1) := ⟨by omega⟩
      have HK2 : Aside0 ((k.toNat : Int) = k) := ⟨by omega⟩
      have HC := Aside0.mk (spans_any jb A0 c0 lots A1 c1 samples spread A3 c3 labs (.map (some mb)) (fun _ => false) lab (k - 2000) wr HJW.out.at hok.out (by omega) (by omega))
      cases hcn : (spansF lots samples spread labs (fun _ => false) lab (k - 2000)).2
      · have HSt : Aside0 (shK (canS lots samples spread labs lab) (k + 1).toNat = shK (canS lots samples spread labs lab) k.toNat) := ⟨by rw [HK1.out]; simp only [shK]; rw [HK2.out, if_neg (by unfold canS; rw [hcn]; exact Bool.false_ne_true)]⟩
        unfold SpansPost at HC
        simp only [hcn] at HC
        clear hcn
        go_wp2_with (go_at_call 54; (with_reducible refine HC.out.mono ?_); rintro e w5 ⟨v, rfl, hrow, hb⟩; clear hrow; have HJ5 := Aside0.mk (HJW.out.step hb); have B95 := Aside0.mk (blk_below B9.out hb); have B45 := Aside0.mk (blk_below B4.out hb); clear hb)
        exact ⟨⟨k + 1, by omega, by omega, by congr 1; omega, HJ5, ⟨by rw [HSt.out]; exact B95.out⟩, B45⟩, by simp only [intOf]; omega⟩
      · have HSt : Aside0 (shK (canS lots samples spread labs lab) (k + 1).toNat = { f0 := min (shK (canS lots samples spread labs lab) k.toNat).f0 (k - 2000), f1 := k - 2000 }) := ⟨by rw [HK1.out]; simp only [shK]; rw [HK2.out, if_pos (by unfold canS; rw [hcn])]⟩
        unfold SpansPost at HC
        simp only [hcn] at HC
        clear hcn
        generalize shK (canS lots samples spread labs lab) k.toNat = sk at HSt B9 ⊢
        go_wp2_with (first | (go_at_call 54; (with_reducible refine HC.out.mono ?_); rintro e w5 ⟨v, rfl, hrow, hb⟩; clear hrow; have HJ5 := Aside0.mk (HJW.out.step hb); have B95 := Aside0.mk (blk_below B9.out hb); have B45 := Aside0.mk (blk_below B4.out hb); clear hb; obtain ⟨q0, q1⟩ := cells2 B95.out) | (go_at_call 60; refine Aside0.out ?_))
        refine ⟨?_⟩
        have L := blk_new w5 (.cells #[.int .i64 sk.f0, .int .i64 (k - 2000)] 3)
        have HJ6 := Aside0.mk (HJ5.out.step (below_alloc (Below.refl _ w5) (.cells #[.int .i64 sk.f0, .int .i64 (k - 2000)] 3)))
        have B96 := Aside0.mk (blk_alloc B95.out (.cells #[.int .i64 sk.f0, .int .i64 (k - 2000)] 3))
        have B46 := Aside0.mk (blk_alloc B45.out (.cells #[.int .i64 sk.f0, .int .i64 (k - 2000)] 3))
        clear q0 q1 HJ5 B95 B45
        generalize w5.alloc (.cells #[.int .i64 sk.f0, .int .i64 (k - 2000)] 3) = w6 at L HJ6 B96 B46 ⊢
        refine (least_any _ _ _ _ _ ((blk_cell L 0).trans rfl) ((blk_cell L 1).trans rfl)).mono ?_
        clear L
        rintro e w7 ⟨rfl, rfl⟩
        obtain ⟨q0, q1⟩ := cells2 B96.out
        have z0 := blk_frozen B96.out 0
        have z1 := blk_frozen B96.out 1
        go_wp2
        exact ⟨⟨k + 1, by omega, by omega, by congr 1; omega, ⟨(HJ6.out.set1 hg1 hjg hmg _ _).set1 hg1 hjg hmg _ _⟩, ⟨by rw [HSt.out]; exact put2 B96.out _ _⟩, ⟨blk_far (blk_far B46.out (by simp; omega) _) (by simp; omega) _⟩⟩, by simp only [intOf]; omega⟩
    · obtain rfl : k = 4001 := by omega
      have HB := Aside0.mk (below_step HB0.out HJW.out.hb)
      obtain ⟨q0, q1⟩ := cells2 B9.out
      obtain ⟨p0, p1⟩ := cells2 B4.out
      have y0 := blk_frozen B4.out 0
      have y1 := blk_frozen B4.out 1
      have HD := Aside0.mk (shiftsF_d hc.out hW.out hcan.out)
      have HE := Aside0.mk (shiftsF_c hc.out hW.out hcan.out)
      rw [show (4001 : Int).toNat = 4001 from rfl] at q0 q1
      generalize shK (canS lots samples spread labs lab) 4001 = sk at HD HE q0 q1 ⊢
      clear hlt hk0 hk
      by_cases h0 : sk.f0 = 1073741824
      · by_cases h1 : sk.f1 = -1073741824
        · obtain rfl : r = ({ f0 := 0, f1 := 0 }, 7) := HS.out.symm.trans (HE.out ⟨h0, h1⟩)
          go_wp2
          (try simp only [Exit.inBlock, Exit.then])
          refine bodyPost_ret (results_ct rfl _ _ (w.heap.size + 1) 46 _ (0, 0) _ rfl (put2 B4.out _ _) rfl rfl rfl) rfl ?_
          exact ⟨rfl, below_set (below_set HB.out (by omega)) (by omega)⟩
        · obtain rfl : r = (sk, 0) := HS.out.symm.trans (HD.out (fun h => h1 h.2))
          go_wp2
          (try simp only [Exit.inBlock, Exit.then])
          refine bodyPost_ret (results_ct rfl _ _ (w.heap.size + 1) 46 _ (0, 0) _ rfl (put2 B4.out _ _) rfl rfl rfl) rfl ?_
          exact ⟨by simp only [h0]; rfl, below_set (below_set HB.out (by omega)) (by omega)⟩
      · obtain rfl : r = (sk, 0) := HS.out.symm.trans (HD.out (fun h => h0 h.1))
        go_wp2
        (try simp only [Exit.inBlock, Exit.then])
        refine bodyPost_ret (results_ct rfl _ _ (w.heap.size + 1) 46 _ (0, 0) _ rfl (put2 B4.out _ _) rfl rfl rfl) rfl ?_
        exact ⟨rfl, below_set (below_set HB.out (by omega)) (by omega)⟩

theorem shifts_any (A0 : Option Addr) (c0 : Nat) (lots : List S46) (A1 : Option Addr) (c1 : Nat) (samples : List Int) (spread : Int) (A3 : Option Addr) (c3 : Nat) (labs : List S75) (lab : Int) (w : World) (hr0 : Kd.C k46 w A0 lots.length lots) (hr1 : (Kd.int .i64).C w A1 samples.length samples) (hr3 : Kd.C k75 w A3 labs.length labs) : Calls Try.prog 32 #[.agg #[.slice A0 lots.length c0, .slice A1 samples.length c1, .int .i64 spread, .slice A3 labs.length c3], .int .i64 lab] w (ShPost w (shiftsF lots samples spread labs lab)) := by
  by_cases h : checkRound lots samples spread labs = 0
  · exact shifts_ok A0 c0 lots A1 c1 samples spread A3 c3 labs lab w hr0 hr1 hr3 h _ rfl
  · have hx := shifts_bad A0 c0 lots A1 c1 samples spread A3 c3 labs lab w hr0 hr1 hr3 h
    unfold shiftsF
    rw [if_pos h]
    exact hx
end Go.Proofs.Ytcpbhklaffgokaa.Q
