import Derived.Test.YtcpbhklaffgokaaH9
import Derived.Deep.RegionHeld3
namespace Go.Proofs.Ytcpbhklaffgokaa.Q
open Go.RowKit Go.Proofs.YtcpbhklaffgokaaW.PrintWords Go.Proofs.YtcpbhklaffgokaaW.PrintLast Go.Proofs.YtcpbhklaffgokaaW.PrintMore
set_option linter.unusedVariables false
set_option linter.unusedSimpArgs false
theorem put6 {W : World} {g : Nat} {a b c d e f : Value} {t : TypeId} (h : W.heap[g]? = some (.cells #[a, b, c, d, e, f] t (0, 0))) (u0 u1 u2 u3 u4 u5 : Value) :
    ((((((W.setCell ⟨g, 0, none⟩ u0).setCell ⟨g, 1, none⟩ u1).setCell ⟨g, 2, none⟩ u2).setCell ⟨g, 3, none⟩ u3).setCell ⟨g, 4, none⟩ u4).setCell ⟨g, 5, none⟩ u5).heap[g]? = some (.cells #[u0, u1, u2, u3, u4, u5] t (0, 0)) :=
  blk_put (blk_put (blk_put (blk_put (blk_put (blk_put h 0 u0 rfl) 1 u1 rfl) 2 u2 rfl) 3 u3 rfl) 4 u4 rfl) 5 u5 rfl
theorem below6 {w0 W : World} {g : Nat} (h : Below w0.heap.size w0 W) (hg : w0.heap.size ≤ g) (u0 u1 u2 u3 u4 u5 : Value) :
    Below w0.heap.size w0 ((((((W.setCell ⟨g, 0, none⟩ u0).setCell ⟨g, 1, none⟩ u1).setCell ⟨g, 2, none⟩ u2).setCell ⟨g, 3, none⟩ u3).setCell ⟨g, 4, none⟩ u4).setCell ⟨g, 5, none⟩ u5) :=
  below_set (below_set (below_set (below_set (below_set (below_set h hg) hg) hg) hg) hg) hg

def okAt (n : Nat) (l : List Int) (k : Int) : Bool := withinB (rd l k) 0 ((n : Int) - 1) && (decide (k ≤ 0) || decide (rd l (k - 1) < rd l k))
def risingK (n : Nat) (l : List Int) : Nat → Bool
  | 0 => true
  | k + 1 => risingK n l k && okAt n l k
def risingB (n : Nat) (l : List Int) : Bool := risingK n l l.length
def offOf (l : List Int) (j : Nat) : Bool := l.contains (j : Int)
theorem risingK_false (n : Nat) (l : List Int) (k : Nat) (h : okAt n l k = false) : ∀ m, k < m → risingK n l m = false := by
  intro m hm
  induction m with
  | zero => omega
  | succ m ih =>
    simp only [risingK]
    by_cases e : k = m
    · subst e; rw [h, Bool.and_false]
    · rw [ih (by omega), Bool.false_and]
theorem off_set (f : Nat → Bool) (n : Nat) (h : n < 6) : (#[.bool (f 0), .bool (f 1), .bool (f 2), .bool (f 3), .bool (f 4), .bool (f 5)] : Array Value).setIfInBounds n (.bool true) =
    #[.bool (f 0 || decide (0 = n)), .bool (f 1 || decide (1 = n)), .bool (f 2 || decide (2 = n)), .bool (f 3 || decide (3 = n)), .bool (f 4 || decide (4 = n)), .bool (f 5 || decide (5 = n))] := by
  match n, h with
  | 0, _ | 1, _ | 2, _ | 3, _ | 4, _ | 5, _ => simp
theorem offOf_snoc (l : List Int) (k : Int) (hk0 : 0 ≤ k) (hk : k < l.length) (h0 : 0 ≤ rd l k) (j : Nat) : offOf (l.take (k + 1).toNat) j = (offOf (l.take k.toNat) j || decide (j = (rd l k).toNat)) := by
  have h1 : k.toNat < l.length := by omega
  have h2 : (k + 1).toNat = k.toNat + 1 := by omega
  have h3 : l[k.toNat] = rd l k := by simp [rd, List.getD_eq_getElem?_getD, List.getElem?_eq_getElem h1]
  unfold offOf
  rw [h2, List.take_succ_eq_append_getElem h1, List.contains_append, h3]
  congr 1
  rw [Bool.eq_iff_iff]
  simp
  omega
def AskedPost (w : World) (A0 : Option Addr) (c0 : Nat) (lots : List S46) (A1 : Option Addr) (c1 : Nat) (samples : List Int) (spread : Int) (A3 : Option Addr) (c3 : Nat) (labs : List S75) (l : List Int) (e : Ending) (w' : World) : Prop :=
  ∃ jb mb : Nat, e = .returned (.tuple #[.pointer (some ⟨jb, 0, none⟩), offV (offOf l), .int .i64 0]) ∧ JW w jb mb A0 c0 lots A1 c1 samples spread A3 c3 labs w'
def AskedErr (w : World) (c : Int) (e : Ending) (w' : World) : Prop := e = .returned (.tuple #[.pointer none, .agg #[.bool false, .bool false, .bool false, .bool false, .bool false, .bool false], .int .i64 c]) ∧ Below w.heap.size w w'
def Asked (w : World) (A0 : Option Addr) (c0 : Nat) (lots : List S46) (A1 : Option Addr) (c1 : Nat) (samples : List Int) (spread : Int) (A3 : Option Addr) (c3 : Nat) (labs : List S75) (l : List Int) (e : Ending) (w' : World) : Prop :=
  if risingB labs.length l = true then AskedPost w A0 c0 lots A1 c1 samples spread A3 c3 labs l e w' else AskedErr w 2 e w'
set_option maxHeartbeats 4000000 in
set_option maxRecDepth 100000 in
theorem asked_bad (A0 : Option Addr) (c0 : Nat) (lots : List S46) (A1 : Option Addr) (c1 : Nat) (samples : List Int) (spread : Int) (A3 : Option Addr) (c3 : Nat) (labs : List S75) (B : Option Addr) (m cB : Nat) (w : World) (hr0 : Kd.C k46 w A0 lots.length lots) (hr1 : (Kd.int .i64).C w A1 samples.length samples) (hr3 : Kd.C k75 w A3 labs.length labs) (hc : checkRound lots samples spread labs ≠ 0) :
    Calls Try.prog 51 #[.agg #[.slice A0 lots.length c0, .slice A1 samples.length c1, .int .i64 spread, .slice A3 labs.length c3], .slice B m cB] w (AskedErr w (checkRound lots samples spread labs)) := by
  have HC := Aside0.mk (judge_bad A0 c0 lots A1 c1 samples spread A3 c3 labs ((w.alloc (.cells #[.slice A0 lots.length c0, .slice A1 samples.length c1, .int .i64 spread, .slice A3 labs.length c3] 34)).alloc (.cells #[.bool false, .bool false, .bool false, .bool false, .bool false, .bool false] 85)) (Kd.C_alloc (Kd.C_alloc hr0 _) _) (Kd.C_alloc (Kd.C_alloc hr1 _) _) (Kd.C_alloc (Kd.C_alloc hr3 _) _) hc)
  have B5 := blk_new (w.alloc (.cells #[.slice A0 lots.length c0, .slice A1 samples.length c1, .int .i64 spread, .slice A3 labs.length c3] 34)) (.cells #[.bool false, .bool false, .bool false, .bool false, .bool false, .bool false] 85)
  rw [World.size_alloc] at B5
  replace B5 := Aside0.mk B5
  clear hr0 hr1 hr3
  generalize checkRound lots samples spread labs = c at hc HC ⊢
  have hne : (c != 0) = true := bne_iff_ne.2 hc
  clear hc
  go_enter Try.func51, Try.ntmps51
  go_wp2_with (go_at_call 57; refine Aside0.out ?_)
  refine ⟨?_⟩
  refine HC.out.mono ?_
  rintro e w1 ⟨rfl, hb⟩
  have HB := Aside0.mk (below_step (below_alloc (below_alloc (Below.refl _ _) _) _) hb)
  replace B5 := Aside0.mk (blk_below B5.out hb)
  clear hb
  obtain ⟨q0, q1, q2, q3, q4, q5⟩ := cells6 B5.out
  have z0 := blk_frozen B5.out 0
  have z1 := blk_frozen B5.out 1
  have z2 := blk_frozen B5.out 2
  have z3 := blk_frozen B5.out 3
  have z4 := blk_frozen B5.out 4
  have z5 := blk_frozen B5.out 5
  go_wp2
  refine bodyPost_ret (results_list (rs := [.tmp 4, .cell 5 85, .tmp 6]) rfl (by simp) (.tmp (.cell (w.heap.size + 1) 85 _ (0, 0) _ rfl (put6 B5.out _ _ _ _ _ _) rfl rfl rfl (.tmp .nil)))) rfl ?_
  exact ⟨rfl, below6 HB.out (by omega) _ _ _ _ _ _⟩
def askedT.T12 : Bool × List (List Nat × List Nat) := (true, [([], []), ([], []), ([0, 0], [0]), ([1, 2, 0, 1, 2], [1]), ([3, 0, 1, 2, 3], [])])
def askedT.B12 : List Nat := [0, 0, 1, 7, 15]
theorem askedT.tab12 : rtab .any (opsOf Try.f51 12) = askedT.T12 := by kernel_rfl
theorem askedT.bits12 : waitsOk askedT.T12.2 askedT.B12 = true := by kernel_rfl
theorem JW.set1 {w0 W : World} {jb mb g : Nat} {A0 : Option Addr} {c0 : Nat} {lots : List S46} {A1 : Option Addr} {c1 : Nat} {samples : List Int} {spread : Int} {A3 : Option Addr} {c3 : Nat} {labs : List S75} (h : JW w0 jb mb A0 c0 lots A1 c1 samples spread A3 c3 labs W) (hg : w0.heap.size ≤ g) (hj : jb < g) (hm : mb < g) (i : Nat) (u : Value) : JW w0 jb mb A0 c0 lots A1 c1 samples spread A3 c3 labs (W.setCell ⟨g, i, none⟩ u) := by
  obtain ⟨es, c, h1, h2⟩ := h.map
  exact ⟨h.r0, h.r1, h.r3, below_set h.hb hg, h.gj, h.gm, (Below.heap_setCell W _ _ _ (by simp; omega)).trans h.blk, es, c, (Below.heap_setCell W _ _ _ (by simp; omega)).trans h1, h2⟩
theorem JW.off {w0 w W : World} {jb mb g : Nat} {A0 : Option Addr} {c0 : Nat} {lots : List S46} {A1 : Option Addr} {c1 : Nat} {samples : List Int} {spread : Int} {A3 : Option Addr} {c3 : Nat} {labs : List S75} (h : JW w0 jb mb A0 c0 lots A1 c1 samples spread A3 c3 labs W) (hr0 : Kd.C k46 w A0 lots.length lots) (hr1 : (Kd.int .i64).C w A1 samples.length samples) (hr3 : Kd.C k75 w A3 labs.length labs) (hb0 : Below w.heap.size w w0) (hg : w.heap.size ≤ g) (hg2 : g < w0.heap.size) (u0 u1 u2 u3 u4 u5 : Value) :
    JW w jb mb A0 c0 lots A1 c1 samples spread A3 c3 labs ((((((W.setCell ⟨g, 0, none⟩ u0).setCell ⟨g, 1, none⟩ u1).setCell ⟨g, 2, none⟩ u2).setCell ⟨g, 3, none⟩ u3).setCell ⟨g, 4, none⟩ u4).setCell ⟨g, 5, none⟩ u5) := by
  obtain ⟨es, c, h1, h2⟩ := h.map
  have hs := hb0.size
  have far : ∀ (b : Nat) (ob : Obj), w0.heap.size ≤ b → W.heap[b]? = some ob → ((((((W.setCell ⟨g, 0, none⟩ u0).setCell ⟨g, 1, none⟩ u1).setCell ⟨g, 2, none⟩ u2).setCell ⟨g, 3, none⟩ u3).setCell ⟨g, 4, none⟩ u4).setCell ⟨g, 5, none⟩ u5).heap[b]? = some ob := by
    intro b ob hb hw
    have hne : b ≠ g := by omega
    rw [Below.heap_setCell _ _ _ _ hne, Below.heap_setCell _ _ _ _ hne, Below.heap_setCell _ _ _ _ hne, Below.heap_setCell _ _ _ _ hne, Below.heap_setCell _ _ _ _ hne, Below.heap_setCell _ _ _ _ hne, hw]
  exact ⟨hr0, hr1, hr3, below6 (below_step hb0 h.hb) hg _ _ _ _ _ _, by have := h.gj; omega, by have := h.gm; omega, far _ _ h.gj h.blk, es, c, far _ _ h.gm h1, h2⟩
set_option maxHeartbeats 8000000 in
set_option maxRecDepth 100000 in
theorem asked_ok (A0 : Option Addr) (c0 : Nat) (lots : List S46) (A1 : Option Addr) (c1 : Nat) (samples : List Int) (spread : Int) (A3 : Option Addr) (c3 : Nat) (labs : List S75) (B : Option Addr) (cB : Nat) (l : List Int) (w : World) (hr0 : Kd.C k46 w A0 lots.length lots) (hr1 : (Kd.int .i64).C w A1 samples.length samples) (hr3 : Kd.C k75 w A3 labs.length labs) (hrB : (Kd.int .i64).C w B l.length l) (hl : l.length < 17592186044416) (hc : checkRound lots samples spread labs = 0) :
    Calls Try.prog 51 #[.agg #[.slice A0 lots.length c0, .slice A1 samples.length c1, .int .i64 spread, .slice A3 labs.length c3], .slice B l.length cB] w (Asked w A0 c0 lots A1 c1 samples spread A3 c3 labs l) := by
  have HC := Aside0.mk (judge_ok A0 c0 lots A1 c1 samples spread A3 c3 labs ((w.alloc (.cells #[.slice A0 lots.length c0, .slice A1 samples.length c1, .int .i64 spread, .slice A3 labs.length c3] 34)).alloc (.cells #[.bool false, .bool false, .bool false, .bool false, .bool false, .bool false] 85)) (Kd.C_alloc (Kd.C_alloc hr0 _) _) (Kd.C_alloc (Kd.C_alloc hr1 _) _) (Kd.C_alloc (Kd.C_alloc hr3 _) _) hc)
  have b6 := (roundOk_of_check hc).b6
  have HR := Aside0.mk (And.intro hr0 (And.intro hr1 (And.intro hr3 hrB)))
  have HB0 := Aside0.mk (below_alloc (below_alloc (Below.refl _ w) (.cells #[.slice A0 lots.length c0, .slice A1 samples.length c1, .int .i64 spread, .slice A3 labs.length c3] 34)) (.cells #[.bool false, .bool false, .bool false, .bool false, .bool false, .bool false] 85))
  have B5 := blk_new (w.alloc (.cells #[.slice A0 lots.length c0, .slice A1 samples.length c1, .int .i64 spread, .slice A3 labs.length c3] 34)) (.cells #[.bool false, .bool false, .bool false, .bool false, .bool false, .bool false] 85)
  rw [World.size_alloc] at B5
  replace B5 := Aside0.mk B5
  have B2 := Aside0.mk (blk_alloc (blk_new w (.cells #[.slice A0 lots.length c0, .slice A1 samples.length c1, .int .i64 spread, .slice A3 labs.length c3] 34)) (.cells #[.bool false, .bool false, .bool false, .bool false, .bool false, .bool false] 85))
  have hsz : ((w.alloc (.cells #[.slice A0 lots.length c0, .slice A1 samples.length c1, .int .i64 spread, .slice A3 labs.length c3] 34)).alloc (.cells #[.bool false, .bool false, .bool false, .bool false, .bool false, .bool false] 85)).heap.size = w.heap.size + 2 := by simp
  clear hr0 hr1 hr3 hrB hc
  go_enter Try.func51, Try.ntmps51
  go_wp2_with (go_at_call 57; refine Aside0.out ?_)
  refine ⟨?_⟩
  refine HC.out.mono ?_
  clear HC
  generalize ((w.alloc (.cells #[.slice A0 lots.length c0, .slice A1 samples.length c1, .int .i64 spread, .slice A3 labs.length c3] 34)).alloc (.cells #[.bool false, .bool false, .bool false, .bool false, .bool false, .bool false] 85)) = w0 at hsz HB0 B5 B2 ⊢
  rintro e w1 ⟨jb, mb, rfl, hj⟩
  have B9 := Aside0.mk (blk_new w1 (.cells #[.bool false, .bool false, .bool false, .bool false, .bool false, .bool false] 85))
  have HJW := Aside0.mk (hj.step (below_alloc (Below.refl _ _) (.cells #[.bool false, .bool false, .bool false, .bool false, .bool false, .bool false] 85)))
  replace B5 := Aside0.mk (blk_alloc (blk_below B5.out hj.hb) (.cells #[.bool false, .bool false, .bool false, .bool false, .bool false, .bool false] 85))
  replace B2 := Aside0.mk (blk_alloc (blk_below B2.out hj.hb) (.cells #[.bool false, .bool false, .bool false, .bool false, .bool false, .bool false] 85))
  have hg9 : w0.heap.size ≤ w1.heap.size := hj.hb.size
  have hjg : jb < w1.heap.size := blk_lt hj.blk
  have hmg : mb < w1.heap.size := by obtain ⟨es, c, h, _⟩ := hj.map; exact blk_lt h
  clear hj
  go_wp2_with fail
  generalize w1.alloc (.cells #[.bool false, .bool false, .bool false, .bool false, .bool false, .bool false] 85) = w2 at B9 HJW B5 B2 ⊢
  generalize w1.heap.size = g9 at hg9 hjg hmg B9 ⊢
  go_loopw [23] (fun q wr => ∃ k : Int, 0 ≤ k ∧ k ≤ l.length ∧ q = .int .i64 k ∧ Aside0 (risingK labs.length l k.toNat = true) ∧ Aside0 (JW w0 jb mb A0 c0 lots A1 c1 samples spread A3 c3 labs wr) ∧ Aside0 (wr.heap[g9]? = some (.cells #[.bool (offOf (l.take k.toNat) 0), .bool (offOf (l.take k.toNat) 1), .bool (offOf (l.take k.toNat) 2), .bool (offOf (l.take k.toNat) 3), .bool (offOf (l.take k.toNat) 4), .bool (offOf (l.take k.toNat) 5)] 85 (0, 0))) ∧ Aside0 (wr.heap[w.heap.size]? = some (.cells #[.slice A0 lots.length c0, .slice A1 samples.length c1, .int .i64 spread, .slice A3 labs.length c3] 34 (0, 0))) ∧ Aside0 (wr.heap[w.heap.size + 1]? = some (.cells #[.bool false, .bool false, .bool false, .bool false, .bool false, .bool false] 85 (0, 0)))) (fun q _ => l.length - (intOf q).toNat)
  case atStart => exact ⟨0, by omega, by omega, rfl, ⟨rfl⟩, HJW, B9, B2, B5⟩
  case round =>
    obtain ⟨k, hk0, hk, rfl, HK, HJW, B9, B2, B5⟩ := hrel
    obtain ⟨p0, p1, p2, p3⟩ := cells4 B2.out
    by_cases hlt : k < l.length
    · have hgB := Kd.C_below HR.out.2.2.2 (below_step HB0.out HJW.out.hb)
      obtain ⟨ad, hA, hy0⟩ := Kd.at_int hgB k hk0 hlt
      obtain rfl := hA
      have HY1 := Aside0.mk (fun (h : 0 < k) => Kd.at_int hgB (k - 1) (by omega) (by omega))
      clear hgB
      have HE := Aside0.mk (fun (h : okAt labs.length l k = false) => risingK_false labs.length l k.toNat (by rw [Int.toNat_of_nonneg hk0]; exact h) l.length (by omega))
      obtain ⟨q0, q1, q2, q3, q4, q5⟩ := cells6 B5.out
      have z0 := blk_frozen B5.out 0
      have z1 := blk_frozen B5.out 1
      have z2 := blk_frozen B5.out 2
      have z3 := blk_frozen B5.out 3
      have z4 := blk_frozen B5.out 4
      have z5 := blk_frozen B5.out 5
      have HEx : okAt labs.length l k = false → Asked w A0 c0 lots A1 c1 samples spread A3 c3 labs l (.returned (.tuple #[.pointer none, .agg #[.bool false, .bool false, .bool false, .bool false, .bool false, .bool false], .int .i64 2])) (((((((wr.setCell ⟨w.heap.size + 1, 0, none⟩ (.bool false)).setCell ⟨w.heap.size + 1, 1, none⟩ (.bool false)).setCell ⟨w.heap.size + 1, 2, none⟩ (.bool false)).setCell ⟨w.heap.size + 1, 3, none⟩ (.bool false)).setCell ⟨w.heap.size + 1, 4, none⟩ (.bool false)).setCell ⟨w.heap.size + 1, 5, none⟩ (.bool false))) := fun h => by
        unfold Asked
        rw [if_neg (by rw [show risingB labs.length l = false from HE.out h]; exact Bool.false_ne_true)]
        exact ⟨rfl, below6 (below_step HB0.out HJW.out.hb) (by omega) _ _ _ _ _ _⟩
      replace HEx := Aside0.mk HEx
      clear HE
      have HW := Aside0.mk (within_any (rd l k) 0 ((labs.length : Int) - 1))
      cases hW : withinB (rd l k) 0 ((labs.length : Int) - 1)
      · simp only [hW] at HW
        have hf : okAt labs.length l k = false := by unfold okAt; rw [hW]; rfl
        replace HEx := Aside0.mk (HEx.out hf)
        clear hW hf
        by_cases h0 : 0 < k
        · obtain ⟨ad2, hA2, hy1⟩ := HY1.out h0
          injection hA2 with hA2
          subst hA2
          rw [show (k - 1).toNat = k.toNat - 1 by omega] at hy1
          go_wp2_with (go_at_call 44; (with_reducible refine (HW.out _).mono ?_); rintro e w' ⟨rfl, rfl⟩)
          (try simp only [Exit.inBlock, Exit.then])
          refine bodyPost_ret (results_list (rs := [.tmp 4, .cell 5 85, .tmp 6]) rfl (by simp) (.tmp (.cell (w.heap.size + 1) 85 _ (0, 0) _ rfl (put6 B5.out _ _ _ _ _ _) rfl rfl rfl (.tmp .nil)))) rfl ?_
          exact HEx.out
        · go_wp2_with (go_at_call 44; (with_reducible refine (HW.out _).mono ?_); rintro e w' ⟨rfl, rfl⟩)
          (try simp only [Exit.inBlock, Exit.then])
          refine bodyPost_ret (results_list (rs := [.tmp 4, .cell 5 85, .tmp 6]) rfl (by simp) (.tmp (.cell (w.heap.size + 1) 85 _ (0, 0) _ rfl (put6 B5.out _ _ _ _ _ _) rfl rfl rfl (.tmp .nil)))) rfl ?_
          exact HEx.out
      · simp only [hW] at HW
        have hx : 0 ≤ rd l k ∧ rd l k ≤ (labs.length : Int) - 1 := by simpa [withinB] using hW
        obtain ⟨hx0, hx1⟩ := hx
        have st0 := (blk_cell B9.out (rd l k).toNat).trans (off_at (offOf (l.take k.toNat)) (rd l k).toNat (by omega))
        have st1 := blk_frozen B9.out (rd l k).toNat
        have HN := Aside0.mk (fun (h : okAt labs.length l k = true) => (by rw [show (k + 1).toNat = k.toNat + 1 by omega]; simp only [risingK, HK.out, Int.toNat_of_nonneg hk0, h]; rfl : risingK labs.length l (k + 1).toNat = true))
        have HPut := Aside0.mk (blk_put B9.out (rd l k).toNat (.bool true) (off_set (offOf (l.take k.toNat)) (rd l k).toNat (by omega)))
        simp only [← offOf_snoc l k hk0 hlt hx0] at HPut
        by_cases h0 : 0 < k
        · obtain ⟨ad2, hA2, hy1⟩ := HY1.out h0
          injection hA2 with hA2
          subst hA2
          rw [show (k - 1).toNat = k.toNat - 1 by omega] at hy1
          by_cases h1 : rd l (k - 1) < rd l k
          · have hf : okAt labs.length l k = true := by unfold okAt; rw [hW]; simp [h1]
            replace HN := Aside0.mk (HN.out hf)
            clear hW hf
            go_wp2_with (go_at_call 44; (with_reducible refine (HW.out _).mono ?_); rintro e w' ⟨rfl, rfl⟩)
            exact ⟨⟨k + 1, by omega, by omega, rfl, HN, ⟨HJW.out.set1 hg9 hjg hmg _ _⟩, ⟨HPut.out⟩, ⟨blk_far B2.out (by simp; omega) _⟩, ⟨blk_far B5.out (by simp; omega) _⟩⟩, by simp only [intOf]; omega⟩
          · have hf : okAt labs.length l k = false := by unfold okAt; rw [hW]; simp; omega
            replace HEx := Aside0.mk (HEx.out hf)
            clear hW hf
            go_wp2_with (go_at_call 44; (with_reducible refine (HW.out _).mono ?_); rintro e w' ⟨rfl, rfl⟩)
            (try simp only [Exit.inBlock, Exit.then])
            refine bodyPost_ret (results_list (rs := [.tmp 4, .cell 5 85, .tmp 6]) rfl (by simp) (.tmp (.cell (w.heap.size + 1) 85 _ (0, 0) _ rfl (put6 B5.out _ _ _ _ _ _) rfl rfl rfl (.tmp .nil)))) rfl ?_
            exact HEx.out
        · have hf : okAt labs.length l k = true := by unfold okAt; rw [hW]; simp; left; omega
          replace HN := Aside0.mk (HN.out hf)
          clear hW hf
          go_wp2_with (go_at_call 44; (with_reducible refine (HW.out _).mono ?_); rintro e w' ⟨rfl, rfl⟩)
          exact ⟨⟨k + 1, by omega, by omega, rfl, HN, ⟨HJW.out.set1 hg9 hjg hmg _ _⟩, ⟨HPut.out⟩, ⟨blk_far B2.out (by simp; omega) _⟩, ⟨blk_far B5.out (by simp; omega) _⟩⟩, by simp only [intOf]; omega⟩
    · obtain rfl : k = l.length := by omega
      have HF := Aside0.mk (show risingB labs.length l = true from by unfold risingB; exact HK.out)
      rw [Int.toNat_natCast, List.take_length] at B9
      clear hlt hk0 hk HK
      go_wp2_with fail
      refine start_ (n := 5) (S := fun w' => w'.cell? ⟨g9, 0, none⟩ = some (.bool (offOf l 0)) ∧ w'.cell? ⟨g9, 1, none⟩ = some (.bool (offOf l 1)) ∧ w'.cell? ⟨g9, 2, none⟩ = some (.bool (offOf l 2)) ∧ w'.cell? ⟨g9, 3, none⟩ = some (.bool (offOf l 3)) ∧ w'.cell? ⟨g9, 4, none⟩ = some (.bool (offOf l 4)) ∧ w'.cell? ⟨g9, 5, none⟩ = some (.bool (offOf l 5))) (ds := [3]) #[false, false, false, false, false] (by kernel_rfl) rfl rfl ⟨(cells6 (blk_drew B9.out)).1, (cells6 (blk_drew B9.out)).2.1, (cells6 (blk_drew B9.out)).2.2.1, (cells6 (blk_drew B9.out)).2.2.2.1, (cells6 (blk_drew B9.out)).2.2.2.2.1, (cells6 (blk_drew B9.out)).2.2.2.2.2⟩ (fun hHeld => ?_)
      refine with_tabW askedT.tab12 askedT.bits12 (fun HT_ HW_ => ?_)
      replace B9 := Aside0.mk (blk_drew B9.out)
      replace B5 := Aside0.mk (blk_drew B5.out)
      replace HJW := Aside0.mk (HJW.out.step (below_drew1 (Below.refl _ _)))
      generalize wr.drew = ws at B9 B5 HJW hHeld ⊢
      obtain ⟨q0, q1, q2, q3, q4, q5⟩ := cells6 B5.out
      have z0 := blk_frozen B5.out 0
      have z1 := blk_frozen B5.out 1
      have z2 := blk_frozen B5.out 2
      have z3 := blk_frozen B5.out 3
      have z4 := blk_frozen B5.out 4
      have z5 := blk_frozen B5.out 5
      refine pure_ (i := 0) (N := some 52) (v := ?_) (a' := ?_) #[true, false, false, false, false] rfl rfl (any_of HT_.out (by kernel_rfl)) (fun _ _ _ h => h) (Or.inl ⟨by rfl, ?_⟩) ?_ ?_
      rotate_left
      · intro w'
        go_simp
        with_reducible rfl
      rotate_left
      · simp only [Act.put, List.setIfInBounds_toArray, List.set_cons_zero, List.set_cons_succ, i64_w, i32_w]
        rfl
      refine pure_ (i := 2) (N := some 4) (v := ?_) (a' := ?_) #[true, false, true, false, false] rfl rfl (any_of HT_.out (by kernel_rfl)) (fun _ _ _ h => h) (Or.inl ⟨by rfl, ?_⟩) ?_ ?_
      rotate_left
      · intro w'
        go_simp
        with_reducible rfl
      rotate_left
      · simp only [Act.put, List.setIfInBounds_toArray, List.set_cons_zero, List.set_cons_succ, i64_w, i32_w]
        rfl
      refine take_ (i := 1) (N := some 53) (v := ?_) (a' := ?_) #[true, true, true, false, false] rfl rfl (take_ofW HT_.out HW_.out (by kernel_rfl)) (fun _ _ _ h => h) (Or.inl ⟨by rfl, ?_⟩) hHeld ?_ ?_
      rotate_left
      · rintro w' ⟨s0, s1, s2, s3, s4, s5⟩
        go_simp
        with_reducible rfl
      rotate_left
      · simp only [Act.put, List.setIfInBounds_toArray, List.set_cons_zero, List.set_cons_succ, i64_w, i32_w]
        rfl
      refine last_ (i := 3) (N := none) #[true, true, true, true, false] rfl rfl (one_of HT_.out (by kernel_rfl)) (by decide) (fun K hK => ?_)
      refine skip_ (w1 := ?_) (by rfl) rfl ?_ ?_
      rotate_left
      · go_simp
        rfl
      refine hK.out _ _ ?_
      clear hK K
      refine pure_ (i := 4) (N := some 6) (v := ?_) (a' := ?_) #[true, true, true, true, true] rfl rfl (any_of HT_.out (by kernel_rfl)) (fun _ _ _ h => h) (Or.inl ⟨by rfl, ?_⟩) ?_ ?_
      rotate_left
      · intro w'
        go_simp
        with_reducible rfl
      rotate_left
      · simp only [Act.put, List.setIfInBounds_toArray, List.set_cons_zero, List.set_cons_succ, i64_w, i32_w]
        rfl
      refine done_ (done_of HT_.out (by kernel_rfl)) ?_

      clear hHeld
      have HEx : Asked w A0 c0 lots A1 c1 samples spread A3 c3 labs l (.returned (.tuple #[.pointer (some ⟨jb, 0, none⟩), offV (offOf l), .int .i64 0])) (((((((ws.setCell ⟨w.heap.size + 1, 0, none⟩ (.bool (offOf l 0))).setCell ⟨w.heap.size + 1, 1, none⟩ (.bool (offOf l 1))).setCell ⟨w.heap.size + 1, 2, none⟩ (.bool (offOf l 2))).setCell ⟨w.heap.size + 1, 3, none⟩ (.bool (offOf l 3))).setCell ⟨w.heap.size + 1, 4, none⟩ (.bool (offOf l 4))).setCell ⟨w.heap.size + 1, 5, none⟩ (.bool (offOf l 5)))) := by
        unfold Asked
        rw [if_pos HF.out]
        exact ⟨jb, mb, rfl, HJW.out.off HR.out.1 HR.out.2.1 HR.out.2.2.1 HB0.out (by omega) (by omega) _ _ _ _ _ _⟩
      replace HEx := Aside0.mk HEx
      go_wp2
      (try simp only [Exit.inBlock, Exit.then])
      refine bodyPost_ret (results_list (rs := [.tmp 4, .cell 5 85, .tmp 6]) rfl (by simp) (.tmp (.cell (w.heap.size + 1) 85 _ (0, 0) _ rfl (put6 B5.out _ _ _ _ _ _) rfl rfl rfl (.tmp .nil)))) rfl ?_
      exact HEx.out
end Go.Proofs.Ytcpbhklaffgokaa.Q
