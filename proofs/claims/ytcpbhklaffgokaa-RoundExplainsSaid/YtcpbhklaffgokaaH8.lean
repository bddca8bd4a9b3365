import Derived.Test.YtcpbhklaffgokaaH7
import Derived.DeepKeys4
import Derived.Deep.RegionHeld3
namespace Go.Proofs.Ytcpbhklaffgokaa.Q
open Go.RowKit Go.Proofs.YtcpbhklaffgokaaW.PrintWords Go.Proofs.YtcpbhklaffgokaaW.PrintLast Go.Proofs.YtcpbhklaffgokaaW.PrintMore
set_option linter.unusedVariables false
set_option linter.unusedSimpArgs false
abbrev offV (o : Nat → Bool) : Value := .agg #[.bool (o 0), .bool (o 1), .bool (o 2), .bool (o 3), .bool (o 4), .bool (o 5)]
theorem laidOut : laidOutB Try.prog = true := by kernel_rfl
theorem keyT : Try.prog.keyTypeAt 2 85 = true := by kernel_rfl
theorem law85 : WideMaps.KeyLaw Try.prog 85 := deep_law_laid laidOut (m := 2) (by decide) (of_decide_eq_true (by kernel_rfl)) keyT (by kernel_rfl)
theorem key85 (o : Nat → Bool) : keyOf Try.prog 85 (offV o) = some (.string (keyBytes [.bool (o 0), .bool (o 1), .bool (o 2), .bool (o 3), .bool (o 4), .bool (o 5)])) := by kernel_rfl
theorem offV_inj {o o' : Nat → Bool} (h : offV o = offV o') : ∀ k, k < 6 → o k = o' k := by
  simp only [offV, Value.agg.injEq] at h
  have h := congrArg Array.toList h
  simp only [List.cons.injEq, Value.bool.injEq] at h
  obtain ⟨h0, h1, h2, h3, h4, h5, _⟩ := h
  intro k hk
  match k, hk with
  | 0, _ => exact h0
  | 1, _ => exact h1
  | 2, _ => exact h2
  | 3, _ => exact h3
  | 4, _ => exact h4
  | 5, _ => exact h5
def MapOk (can : (Nat → Bool) → Bool) (es : Array MapEntry) : Prop := ∀ e ∈ es.toList, ∃ o, e.key = offV o ∧ e.val = .bool (can o)
theorem zero4 (w : World) : (zeroValue 4).run Try.prog w = .ok (.bool false) w := by kernel_rfl
theorem run_getObj_map {P : Program} {w : World} {r : Nat} {es : Array MapEntry} {c : Nat} (h : w.heap[r]? = some (.map es c)) : (getObj r).run P w = .ok (.map es c) w := by simp [getObj, Sem.run, h]
theorem lookup85 (can : (Nat → Bool) → Bool) (hcan : ∀ o o', (∀ k, k < 6 → o k = o' k) → can o = can o') (o : Nat → Bool) (w : World) (mb : Nat) (es : Array MapEntry) (c : Nat) (hm : w.heap[mb]? = some (.map es c)) (hok : MapOk can es) :
    ∃ b ok : Bool, (Instr.lookup 105 (.map (some mb)) (offV o) true).run Try.prog w = .ok (.tuple #[.bool b, .bool ok]) w ∧ (ok = true → b = can o) ∧ (ok = false → ∀ e ∈ es.toList, e.key ≠ offV o) := by
  have hk := key85 o
  have hc := law85.check w es.isEmpty hk
  rcases law85.find w hk es.toList (fun e he => by obtain ⟨o', h1, _⟩ := hok e he; rw [h1]; exact ⟨_, key85 o'⟩) with ⟨hf, hne⟩ | ⟨j, e, hf, hj, he⟩
  · refine ⟨false, false, ?_, by simp, fun _ => hne⟩
    simp only [Instr.lookup, Sem.run_bind, run_underlying Try.underlying105, Result.andThen_ok, run_getObj_map hm, hc, hf, zero4, Sem.run_pure, if_true]
  · obtain ⟨o', h1, h2⟩ := hok e (List.mem_of_getElem? hj)
    refine ⟨can o', true, ?_, fun _ => hcan _ _ (offV_inj (h1.symm.trans he)), by simp⟩
    simp only [Instr.lookup, Sem.run_bind, run_underlying Try.underlying105, Result.andThen_ok, run_getObj_map hm, hc, hf, h2, Sem.run_pure, if_true]
theorem update85 (o : Nat → Bool) (b : Bool) (can : (Nat → Bool) → Bool) (w : World) (mb : Nat) (es : Array MapEntry) (c : Nat) (hm : w.heap[mb]? = some (.map es c)) (hok : MapOk can es) (hne : ∀ e ∈ es.toList, e.key ≠ offV o) :
    (Instr.mapUpdate 105 (.map (some mb)) (offV o) (.bool b)).run Try.prog w = .ok () (w.putObj mb (.map (es.push { key := offV o, val := .bool b, born := c }) (c + 1))) := by
  have hk := key85 o
  have hc := law85.check w false hk
  rcases law85.find w hk es.toList (fun e he => by obtain ⟨o', h1, _⟩ := hok e he; rw [h1]; exact ⟨_, key85 o'⟩) with ⟨hf, _⟩ | ⟨j, e, hf, hj, he⟩
  · simp only [Instr.mapUpdate, Sem.run_bind, run_underlying Try.underlying105, Result.andThen_ok, run_getObj_map hm, hc, hf]
    simp [setObj, Sem.run, hm, World.putObj]
  · exact absurd he (hne e (List.mem_of_getElem? hj))

theorem readsFrom_congr (o o' : Nat → Bool) (lab d i : Int) : ∀ (xs : List S75) (k : Nat), k + xs.length ≤ 6 → (∀ j, j < 6 → o j = o' j) → readsFrom o lab d i k xs = readsFrom o' lab d i k xs := by
  intro xs
  induction xs with
  | nil => intro k _ _; rfl
  | cons x xs ih =>
    intro k hk h
    have hl : k + (xs.length + 1) ≤ 6 := hk
    simp only [readsFrom]
    rw [h k (by omega), ih (k + 1) (by omega) h]
theorem spansFrom_congr (labs : List S75) (spread : Int) (o o' : Nat → Bool) (lab d : Int) (hl : labs.length ≤ 6) (h : ∀ j, j < 6 → o j = o' j) : ∀ (ss : List Int) (i : Nat) (lots out : List S46), spansFrom labs spread o lab d i ss lots out = spansFrom labs spread o' lab d i ss lots out := by
  intro ss
  induction ss with
  | nil => intro i lots out; rfl
  | cons s ss ih =>
    intro i lots out
    have hs : sampR labs o lab d i = sampR labs o' lab d i := by unfold sampR; rw [readsFrom_congr o o' lab d i labs 0 (by omega) h]
    simp only [spansFrom, hs, ih]
def canF (lots : List S46) (samples : List Int) (spread : Int) (labs : List S75) (o : Nat → Bool) : Bool := (spansF lots samples spread labs o (-1) 0).2
theorem canF_congr (lots : List S46) (samples : List Int) (spread : Int) (labs : List S75) (hl : labs.length ≤ 6) (o o' : Nat → Bool) (h : ∀ j, j < 6 → o j = o' j) : canF lots samples spread labs o = canF lots samples spread labs o' := by
  unfold canF spansF
  rw [spansFrom_congr labs spread o o' (-1) 0 hl h]
/-- the judged round in memory: what lay at w0 lies there still; its struct, its map -/
structure JW (w0 : World) (jb mb : Nat) (A0 : Option Addr) (c0 : Nat) (lots : List S46) (A1 : Option Addr) (c1 : Nat) (samples : List Int) (spread : Int) (A3 : Option Addr) (c3 : Nat) (labs : List S75) (W : World) : Prop where
  r0 : Kd.C k46 w0 A0 lots.length lots
  r1 : (Kd.int .i64).C w0 A1 samples.length samples
  r3 : Kd.C k75 w0 A3 labs.length labs
  hb : Below w0.heap.size w0 W
  gj : w0.heap.size ≤ jb
  gm : w0.heap.size ≤ mb
  blk : W.heap[jb]? = some (.cells #[.slice A0 lots.length c0, .slice A1 samples.length c1, .int .i64 spread, .slice A3 labs.length c3, .map (some mb)] 107 (0, 0))
  map : ∃ es c, W.heap[mb]? = some (.map es c) ∧ MapOk (canF lots samples spread labs) es
theorem JW.at {w0 W : World} {jb mb : Nat} {A0 : Option Addr} {c0 : Nat} {lots : List S46} {A1 : Option Addr} {c1 : Nat} {samples : List Int} {spread : Int} {A3 : Option Addr} {c3 : Nat} {labs : List S75} (h : JW w0 jb mb A0 c0 lots A1 c1 samples spread A3 c3 labs W) : JAt W jb A0 c0 lots A1 c1 samples spread A3 c3 labs (.map (some mb)) :=
  ⟨h.blk, Kd.C_below h.r0 h.hb, Kd.C_below h.r1 h.hb, Kd.C_below h.r3 h.hb⟩
theorem JW.step {w0 W W' : World} {jb mb : Nat} {A0 : Option Addr} {c0 : Nat} {lots : List S46} {A1 : Option Addr} {c1 : Nat} {samples : List Int} {spread : Int} {A3 : Option Addr} {c3 : Nat} {labs : List S75} (h : JW w0 jb mb A0 c0 lots A1 c1 samples spread A3 c3 labs W) (hb : Below W.heap.size W W') : JW w0 jb mb A0 c0 lots A1 c1 samples spread A3 c3 labs W' := by
  obtain ⟨es, c, h1, h2⟩ := h.map
  exact ⟨h.r0, h.r1, h.r3, below_step h.hb hb, h.gj, h.gm, blk_below h.blk hb, es, c, blk_below h1 hb, h2⟩
theorem JW.put {w0 W : World} {jb mb : Nat} {A0 : Option Addr} {c0 : Nat} {lots : List S46} {A1 : Option Addr} {c1 : Nat} {samples : List Int} {spread : Int} {A3 : Option Addr} {c3 : Nat} {labs : List S75} (h : JW w0 jb mb A0 c0 lots A1 c1 samples spread A3 c3 labs W) (es : Array MapEntry) (c : Nat) (hok : MapOk (canF lots samples spread labs) es) : JW w0 jb mb A0 c0 lots A1 c1 samples spread A3 c3 labs (W.putObj mb (.map es c)) := by
  obtain ⟨es0, c0', h1, _⟩ := h.map
  have hne : jb ≠ mb := fun e => by have := h.blk; rw [e, h1] at this; cases this
  refine ⟨h.r0, h.r1, h.r3, h.hb.trans ⟨rfl, rfl, rfl, by simp, fun k hk => World.putObj_heap_other (by have := h.gm; omega)⟩, h.gj, h.gm, (World.putObj_heap_other hne).trans h.blk, es, c, World.putObj_heap_same (blk_lt h1), hok⟩
def ExPost (w0 : World) (jb mb : Nat) (A0 : Option Addr) (c0 : Nat) (lots : List S46) (A1 : Option Addr) (c1 : Nat) (samples : List Int) (spread : Int) (A3 : Option Addr) (c3 : Nat) (labs : List S75) (b : Bool) (W : World) (e : Ending) (W' : World) : Prop := e = .returned (.bool b) ∧ JW w0 jb mb A0 c0 lots A1 c1 samples spread A3 c3 labs W' ∧ Kb W.heap.size mb W W'
theorem MapOk.push {can : (Nat → Bool) → Bool} {es : Array MapEntry} (h : MapOk can es) (o : Nat → Bool) (c : Nat) : MapOk can (es.push { key := offV o, val := .bool (can o), born := c }) := fun e he => by
  rw [Array.toList_push] at he
  rcases List.mem_append.1 he with he | he
  · exact h e he
  · rw [List.mem_singleton.1 he]; exact ⟨o, rfl, rfl⟩
theorem cells6 {W : World} {g : Nat} {a b c d e f : Value} {t : TypeId} (h : W.heap[g]? = some (.cells #[a, b, c, d, e, f] t (0, 0))) :
    W.cell? ⟨g, 0, none⟩ = some a ∧ W.cell? ⟨g, 1, none⟩ = some b ∧ W.cell? ⟨g, 2, none⟩ = some c ∧ W.cell? ⟨g, 3, none⟩ = some d ∧ W.cell? ⟨g, 4, none⟩ = some e ∧ W.cell? ⟨g, 5, none⟩ = some f :=
  ⟨(blk_cell h 0).trans rfl, (blk_cell h 1).trans rfl, (blk_cell h 2).trans rfl, (blk_cell h 3).trans rfl, (blk_cell h 4).trans rfl, (blk_cell h 5).trans rfl⟩
def explainT.T1 : Bool × List (List Nat × List Nat) := (true, [([], []), ([0], [0]), ([1], [1]), ([2], [2]), ([], []), ([3, 4], [3, 4]), ([5], [5]), ([6], [6]), ([6], [6]), ([7, 0, 1, 2, 3, 4, 5, 6, 7], [7]), ([8, 9, 0, 1, 2, 3, 4, 5, 6, 7, 8, 9], [8])])
def explainT.B1 : List Nat := [0, 1, 3, 7, 0, 31, 63, 127, 127, 255, 1023]
theorem explainT.tab1 : rtab .any (opsOf Try.f52 1) = explainT.T1 := by kernel_rfl
theorem explainT.bits1 : waitsOk explainT.T1.2 explainT.B1 = true := by kernel_rfl
def explainT.T3 : Bool × List (List Nat × List Nat) := (true, [([], []), ([], []), ([], []), ([0, 1, 2, 2], [0, 1, 2]), ([3], [3]), ([4], [4]), ([4], [4]), ([6, 3, 0, 1, 2, 3, 4, 5, 6], [6])])
def explainT.B3 : List Nat := [0, 0, 0, 7, 15, 31, 31, 127]
theorem explainT.tab3 : rtab .any (opsOf Try.f52 3) = explainT.T3 := by kernel_rfl
theorem explainT.bits3 : waitsOk explainT.T3.2 explainT.B3 = true := by kernel_rfl
def explainT.T4 : Bool × List (List Nat × List Nat) := (true, [([], []), ([0], [0]), ([1], [1]), ([2], [2]), ([], []), ([], []), ([3, 4, 5, 0, 1, 2, 3, 4, 5], [3, 4, 5])])
def explainT.B4 : List Nat := [0, 1, 3, 7, 0, 0, 63]
theorem explainT.tab4 : rtab .any (opsOf Try.f52 4) = explainT.T4 := by kernel_rfl
theorem explainT.bits4 : waitsOk explainT.T4.2 explainT.B4 = true := by kernel_rfl
set_option maxHeartbeats 8000000 in
set_option maxRecDepth 100000 in
theorem explain_any (w0 : World) (jb mb : Nat) (A0 : Option Addr) (c0 : Nat) (lots : List S46) (A1 : Option Addr) (c1 : Nat) (samples : List Int) (spread : Int) (A3 : Option Addr) (c3 : Nat) (labs : List S75) (o : Nat → Bool) (W : World) (hj : JW w0 jb mb A0 c0 lots A1 c1 samples spread A3 c3 labs W) (hok : RoundOk lots samples spread labs) :
    Calls Try.prog 52 #[.pointer (some ⟨jb, 0, none⟩), .agg #[.bool (o 0), .bool (o 1), .bool (o 2), .bool (o 3), .bool (o 4), .bool (o 5)]] W (ExPost w0 jb mb A0 c0 lots A1 c1 samples spread A3 c3 labs (canF lots samples spread labs o) W) := by
  have b6 := hok.b6
  have HJW := Aside0.mk (hj.step (below_alloc (Below.refl _ _) (.cells #[.bool (o 0), .bool (o 1), .bool (o 2), .bool (o 3), .bool (o 4), .bool (o 5)] 85)))
  have HK := Aside0.mk (kb_of_below (R := mb) (below_alloc (Below.refl _ W) (.cells #[.bool (o 0), .bool (o 1), .bool (o 2), .bool (o 3), .bool (o 4), .bool (o 5)] 85)))
  have BG := Aside0.mk (blk_new W (.cells #[.bool (o 0), .bool (o 1), .bool (o 2), .bool (o 3), .bool (o 4), .bool (o 5)] 85))
  clear hj
  go_enter Try.func52, Try.ntmps52
  go_wp2
  generalize W.alloc (.cells #[.bool (o 0), .bool (o 1), .bool (o 2), .bool (o 3), .bool (o 4), .bool (o 5)] 85) = w1 at BG HJW HK ⊢
  refine start_ (n := 11) (S := fun w' => w'.cell? ⟨W.heap.size, 0, none⟩ = some (.bool (o 0)) ∧ w'.cell? ⟨W.heap.size, 1, none⟩ = some (.bool (o 1)) ∧ w'.cell? ⟨W.heap.size, 2, none⟩ = some (.bool (o 2)) ∧ w'.cell? ⟨W.heap.size, 3, none⟩ = some (.bool (o 3)) ∧ w'.cell? ⟨W.heap.size, 4, none⟩ = some (.bool (o 4)) ∧ w'.cell? ⟨W.heap.size, 5, none⟩ = some (.bool (o 5)) ∧ w'.cell? ⟨jb, 4, none⟩ = some (.map (some mb))) (ds := []) #[false, false, false, false, false, false, false, false, false, false, false] (by kernel_rfl) rfl rfl ⟨(cells6 (blk_drew BG.out)).1, (cells6 (blk_drew BG.out)).2.1, (cells6 (blk_drew BG.out)).2.2.1, (cells6 (blk_drew BG.out)).2.2.2.1, (cells6 (blk_drew BG.out)).2.2.2.2.1, (cells6 (blk_drew BG.out)).2.2.2.2.2, (HJW.out.step (below_drew1 (Below.refl _ _))).at.cells.2.2.2.2⟩ (fun hHeld => ?_)
  refine with_tabW explainT.tab1 explainT.bits1 (fun HT_ HW_ => ?_)
  replace BG := Aside0.mk (blk_drew BG.out)
  replace HJW := Aside0.mk (HJW.out.step (below_drew1 (Below.refl _ _)))
  replace HK := Aside0.mk (HK.out.trans (kb_of_below (below_drew1 (Below.refl _ _))))
  generalize w1.drew = w2 at BG HJW HK hHeld ⊢
  refine pure_ (i := 0) (N := some 8) (v := ?_) (a' := ?_) #[true, false, false, false, false, false, false, false, false, false, false] rfl rfl (any_of HT_.out (by kernel_rfl)) (fun _ _ _ h => h) (Or.inl ⟨by rfl, ?_⟩) ?_ ?_
  rotate_left
  · intro w'
    go_simp
    with_reducible rfl
  rotate_left
  · simp only [Act.put, List.setIfInBounds_toArray, List.set_cons_zero, List.set_cons_succ, i64_w, i32_w]
    rfl
  refine pure_ (i := 1) (N := some 9) (v := ?_) (a' := ?_) #[true, true, false, false, false, false, false, false, false, false, false] rfl rfl (any_of HT_.out (by kernel_rfl)) (fun _ _ _ h => h) (Or.inl ⟨by rfl, ?_⟩) ?_ ?_
  rotate_left
  · intro w'
    go_simp
    with_reducible rfl
  rotate_left
  · simp only [Act.put, List.setIfInBounds_toArray, List.set_cons_zero, List.set_cons_succ, i64_w, i32_w]
    rfl
  refine pure_ (i := 2) (N := some 10) (v := ?_) (a' := ?_) #[true, true, true, false, false, false, false, false, false, false, false] rfl rfl (any_of HT_.out (by kernel_rfl)) (fun _ _ _ h => h) (Or.inl ⟨by rfl, ?_⟩) ?_ ?_
  rotate_left
  · intro w'
    go_simp
    with_reducible rfl
  rotate_left
  · simp only [Act.put, List.setIfInBounds_toArray, List.set_cons_zero, List.set_cons_succ, i64_w, i32_w]
    rfl
  refine take_ (i := 3) (N := some 11) (v := ?_) (a' := ?_) #[true, true, true, true, false, false, false, false, false, false, false] rfl rfl (take_ofW HT_.out HW_.out (by kernel_rfl)) (fun _ _ _ h => h) (Or.inl ⟨by rfl, ?_⟩) hHeld ?_ ?_
  rotate_left
  · rintro w' ⟨s0, s1, s2, s3, s4, s5, s6⟩
    go_simp
    with_reducible rfl
  rotate_left
  · simp only [Act.put, List.setIfInBounds_toArray, List.set_cons_zero, List.set_cons_succ, i64_w, i32_w]
    rfl
  refine take_ (i := 4) (N := some 12) (v := ?_) (a' := ?_) #[true, true, true, true, true, false, false, false, false, false, false] rfl rfl (take_ofW HT_.out HW_.out (by kernel_rfl)) (fun _ _ _ h => h) (Or.inl ⟨by rfl, ?_⟩) hHeld ?_ ?_
  rotate_left
  · rintro w' ⟨s0, s1, s2, s3, s4, s5, s6⟩
    go_simp
    with_reducible rfl
  rotate_left
  · simp only [Act.put, List.setIfInBounds_toArray, List.set_cons_zero, List.set_cons_succ, i64_w, i32_w]
    rfl
  refine one_ (i := 5) (N := some 13) #[true, true, true, true, true, true, false, false, false, false, false] rfl rfl (one_of HT_.out (by kernel_rfl)) (by decide) (fun K hK => ?_)
  obtain ⟨es, cl, hm1, hm2⟩ := HJW.out.map
  obtain ⟨b, ok, hlk, hb1, hb2⟩ := lookup85 _ (canF_congr lots samples spread labs b6) o w2 mb es cl hm1 hm2
  replace hm1 := Aside0.mk hm1
  replace hm2 := Aside0.mk hm2
  replace hb1 := Aside0.mk hb1
  replace hb2 := Aside0.mk hb2
  refine value_ (w1 := ?_) (v := ?_) (by rfl) rfl ?_ ?_
  rotate_left 2
  · go_simp
    constructor
    · rfl
    · rfl
  clear hlk
  refine hK.out _ _ ⟨(cells6 BG.out).1, (cells6 BG.out).2.1, (cells6 BG.out).2.2.1, (cells6 BG.out).2.2.2.1, (cells6 BG.out).2.2.2.2.1, (cells6 BG.out).2.2.2.2.2, HJW.out.at.cells.2.2.2.2⟩ (fun hHeld => ?_)
  clear hK K
  refine norm_ (a' := ?_) ?_ ?_
  rotate_left
  · show Act.put _ (some 13) _ = _
    simp only [Act.put, List.setIfInBounds_toArray, List.set_cons_zero, List.set_cons_succ, i64_w, i32_w]
    rfl
  refine pure_ (i := 6) (N := some 7) (v := ?_) (a' := ?_) #[true, true, true, true, true, true, true, false, false, false, false] rfl rfl (any_of HT_.out (by kernel_rfl)) (fun _ _ _ h => h) (Or.inl ⟨by rfl, ?_⟩) ?_ ?_
  rotate_left
  · intro w'
    go_simp
    with_reducible rfl
  rotate_left
  · simp only [Act.put, List.setIfInBounds_toArray, List.set_cons_zero, List.set_cons_succ, i64_w, i32_w]
    rfl
  refine pure_ (i := 7) (N := some 14) (v := ?_) (a' := ?_) #[true, true, true, true, true, true, true, true, false, false, false] rfl rfl (any_of HT_.out (by kernel_rfl)) (fun _ _ _ h => h) (Or.inl ⟨by rfl, ?_⟩) ?_ ?_
  rotate_left
  · intro w'
    go_simp
    with_reducible rfl
  rotate_left
  · simp only [Act.put, List.setIfInBounds_toArray, List.set_cons_zero, List.set_cons_succ, i64_w, i32_w]
    rfl
  refine pure_ (i := 8) (N := some 15) (v := ?_) (a' := ?_) #[true, true, true, true, true, true, true, true, true, false, false] rfl rfl (any_of HT_.out (by kernel_rfl)) (fun _ _ _ h => h) (Or.inl ⟨by rfl, ?_⟩) ?_ ?_
  rotate_left
  · intro w'
    go_simp
    with_reducible rfl
  rotate_left
  · simp only [Act.put, List.setIfInBounds_toArray, List.set_cons_zero, List.set_cons_succ, i64_w, i32_w]
    rfl
  refine pure_ (i := 9) (N := some 5) (v := ?_) (a' := ?_) #[true, true, true, true, true, true, true, true, true, true, false] rfl rfl (any_of HT_.out (by kernel_rfl)) (fun _ _ _ h => h) (Or.inl ⟨by rfl, ?_⟩) ?_ ?_
  rotate_left
  · intro w'
    go_simp
    with_reducible rfl
  rotate_left
  · simp only [Act.put, List.setIfInBounds_toArray, List.set_cons_zero, List.set_cons_succ, i64_w, i32_w]
    rfl
  refine pure_ (i := 10) (N := some 6) (v := ?_) (a' := ?_) #[true, true, true, true, true, true, true, true, true, true, true] rfl rfl (any_of HT_.out (by kernel_rfl)) (fun _ _ _ h => h) (Or.inl ⟨by rfl, ?_⟩) ?_ ?_
  rotate_left
  · intro w'
    go_simp
    with_reducible rfl
  rotate_left
  · simp only [Act.put, List.setIfInBounds_toArray, List.set_cons_zero, List.set_cons_succ, i64_w, i32_w]
    rfl
  refine done_ (done_of HT_.out (by kernel_rfl)) ?_

  clear hHeld
  cases ok
  · go_wp2
    refine start_ (n := 8) (S := fun w' => w'.cell? ⟨W.heap.size, 0, none⟩ = some (.bool (o 0)) ∧ w'.cell? ⟨W.heap.size, 1, none⟩ = some (.bool (o 1)) ∧ w'.cell? ⟨W.heap.size, 2, none⟩ = some (.bool (o 2)) ∧ w'.cell? ⟨W.heap.size, 3, none⟩ = some (.bool (o 3)) ∧ w'.cell? ⟨W.heap.size, 4, none⟩ = some (.bool (o 4)) ∧ w'.cell? ⟨W.heap.size, 5, none⟩ = some (.bool (o 5))) (ds := []) #[false, false, false, false, false, false, false, false] (by kernel_rfl) rfl rfl ⟨(cells6 (blk_drew BG.out)).1, (cells6 (blk_drew BG.out)).2.1, (cells6 (blk_drew BG.out)).2.2.1, (cells6 (blk_drew BG.out)).2.2.2.1, (cells6 (blk_drew BG.out)).2.2.2.2.1, (cells6 (blk_drew BG.out)).2.2.2.2.2⟩ (fun hHeld => ?_)
    refine with_tabW explainT.tab3 explainT.bits3 (fun HT_ HW_ => ?_)
    replace hm1 := Aside0.mk (blk_drew hm1.out)
    replace BG := Aside0.mk (blk_drew BG.out)
    replace HJW := Aside0.mk (HJW.out.step (below_drew1 (Below.refl _ _)))
    replace HK := Aside0.mk (HK.out.trans (kb_of_below (below_drew1 (Below.refl _ _))))
    generalize w2.drew = w3 at hm1 BG HJW HK hHeld ⊢
    refine pure_ (i := 0) (N := some 19) (v := ?_) (a' := ?_) #[true, false, false, false, false, false, false, false] rfl rfl (any_of HT_.out (by kernel_rfl)) (fun _ _ _ h => h) (Or.inl ⟨by rfl, ?_⟩) ?_ ?_
    rotate_left
    · intro w'
      go_simp
      with_reducible rfl
    rotate_left
    · simp only [Act.put, List.setIfInBounds_toArray, List.set_cons_zero, List.set_cons_succ, i64_w, i32_w]
      rfl
    refine take_ (i := 1) (N := some 20) (v := ?_) (a' := ?_) #[true, true, false, false, false, false, false, false] rfl rfl (take_ofW HT_.out HW_.out (by kernel_rfl)) (fun _ _ _ h => h) (Or.inl ⟨by rfl, ?_⟩) hHeld ?_ ?_
    rotate_left
    · rintro w' ⟨s0, s1, s2, s3, s4, s5⟩
      go_simp
      with_reducible rfl
    rotate_left
    · simp only [Act.put, List.setIfInBounds_toArray, List.set_cons_zero, List.set_cons_succ, i64_w, i32_w]
      rfl
    refine one_ (i := 2) (N := some 21) #[true, true, true, false, false, false, false, false] rfl rfl (one_of HT_.out (by kernel_rfl)) (by decide) (fun K hK => ?_)
    refine goes_ Try.func55 (by kernel_rfl) rfl #[] (by rfl) rfl rfl (by simp only [List.map_toArray, List.map_cons, List.map_nil]) ?_
    with_reducible refine (nobody_any _).mono ?_
    rintro e w4 ⟨rfl, hb⟩
    refine ⟨_, rfl, ?_⟩
    replace BG := Aside0.mk (blk_below BG.out hb)
    replace HJW := Aside0.mk (HJW.out.step hb)
    replace hm1 := Aside0.mk (blk_below hm1.out hb)
    replace HK := Aside0.mk (HK.out.trans (kb_of_below (hb.mono HK.out.size)))
    clear hb
    refine hK.out _ _ ⟨(cells6 BG.out).1, (cells6 BG.out).2.1, (cells6 BG.out).2.2.1, (cells6 BG.out).2.2.2.1, (cells6 BG.out).2.2.2.2.1, (cells6 BG.out).2.2.2.2.2⟩ (fun hHeld => ?_)
    clear hK K
    refine norm_ (a' := ?_) ?_ ?_
    rotate_left
    · show Act.put _ (some 21) _ = _
      simp only [Act.put, List.setIfInBounds_toArray, List.set_cons_zero, List.set_cons_succ, i64_w, i32_w]
      rfl
    refine one_ (i := 3) (N := some 22) #[true, true, true, true, false, false, false, false] rfl rfl (one_of HT_.out (by kernel_rfl)) (by decide) (fun K hK => ?_)
    refine goes_ Try.func54 (by kernel_rfl) rfl #[.pointer (some ⟨jb, 0, none⟩), .agg #[.bool (o 0), .bool (o 1), .bool (o 2), .bool (o 3), .bool (o 4), .bool (o 5)], .agg #[.int .i64 (-1), .int .i64 0]] (by rfl) rfl rfl (by simp only [List.map_toArray, List.map_cons, List.map_nil]; rfl) ?_
    with_reducible refine (spans_any jb A0 c0 lots A1 c1 samples spread A3 c3 labs (.map (some mb)) o (-1) 0 _ HJW.out.at hok (by omega) (by omega)).mono ?_
    rintro e w5 ⟨vs, rfl, hrow, hb⟩
    refine ⟨_, rfl, ?_⟩
    clear hrow
    replace BG := Aside0.mk (blk_below BG.out hb)
    replace HJW := Aside0.mk (HJW.out.step hb)
    replace hm1 := Aside0.mk (blk_below hm1.out hb)
    replace HK := Aside0.mk (HK.out.trans (kb_of_below (hb.mono HK.out.size)))
    clear hb
    refine hK.out _ _ ⟨(cells6 BG.out).1, (cells6 BG.out).2.1, (cells6 BG.out).2.2.1, (cells6 BG.out).2.2.2.1, (cells6 BG.out).2.2.2.2.1, (cells6 BG.out).2.2.2.2.2⟩ (fun hHeld => ?_)
    clear hK K
    refine norm_ (a' := ?_) ?_ ?_
    rotate_left
    · show Act.put _ (some 22) _ = _
      simp only [Act.put, List.setIfInBounds_toArray, List.set_cons_zero, List.set_cons_succ, i64_w, i32_w]
      rfl
    refine pure_ (i := 4) (N := some 18) (v := ?_) (a' := ?_) #[true, true, true, true, true, false, false, false] rfl rfl (any_of HT_.out (by kernel_rfl)) (fun _ _ _ h => h) (Or.inl ⟨by rfl, ?_⟩) ?_ ?_
    rotate_left
    · intro w'
      go_simp
      with_reducible rfl
    rotate_left
    · simp only [Act.put, List.setIfInBounds_toArray, List.set_cons_zero, List.set_cons_succ, i64_w, i32_w]
      rfl
    refine pure_ (i := 5) (N := some 23) (v := ?_) (a' := ?_) #[true, true, true, true, true, true, false, false] rfl rfl (any_of HT_.out (by kernel_rfl)) (fun _ _ _ h => h) (Or.inl ⟨by rfl, ?_⟩) ?_ ?_
    rotate_left
    · intro w'
      go_simp
      with_reducible rfl
    rotate_left
    · simp only [Act.put, List.setIfInBounds_toArray, List.set_cons_zero, List.set_cons_succ, i64_w, i32_w]
      rfl
    refine pure_ (i := 6) (N := some 24) (v := ?_) (a' := ?_) #[true, true, true, true, true, true, true, false] rfl rfl (any_of HT_.out (by kernel_rfl)) (fun _ _ _ h => h) (Or.inl ⟨by rfl, ?_⟩) ?_ ?_
    rotate_left
    · intro w'
      go_simp
      with_reducible rfl
    rotate_left
    · simp only [Act.put, List.setIfInBounds_toArray, List.set_cons_zero, List.set_cons_succ, i64_w, i32_w]
      rfl
    refine pure_ (i := 7) (N := some 5) (v := ?_) (a' := ?_) #[true, true, true, true, true, true, true, true] rfl rfl (any_of HT_.out (by kernel_rfl)) (fun _ _ _ h => h) (Or.inl ⟨by rfl, ?_⟩) ?_ ?_
    rotate_left
    · intro w'
      go_simp
      with_reducible rfl
    rotate_left
    · simp only [Act.put, List.setIfInBounds_toArray, List.set_cons_zero, List.set_cons_succ, i64_w, i32_w]
      rfl
    refine done_ (done_of HT_.out (by kernel_rfl)) ?_

    clear hHeld
    go_wp2
    refine start_ (n := 7) (S := fun w' => w'.cell? ⟨W.heap.size, 0, none⟩ = some (.bool (o 0)) ∧ w'.cell? ⟨W.heap.size, 1, none⟩ = some (.bool (o 1)) ∧ w'.cell? ⟨W.heap.size, 2, none⟩ = some (.bool (o 2)) ∧ w'.cell? ⟨W.heap.size, 3, none⟩ = some (.bool (o 3)) ∧ w'.cell? ⟨W.heap.size, 4, none⟩ = some (.bool (o 4)) ∧ w'.cell? ⟨W.heap.size, 5, none⟩ = some (.bool (o 5)) ∧ w'.cell? ⟨jb, 4, none⟩ = some (.map (some mb))) (ds := [6]) #[false, false, false, false, false, false, false] (by kernel_rfl) rfl rfl ⟨(cells6 (blk_drew BG.out)).1, (cells6 (blk_drew BG.out)).2.1, (cells6 (blk_drew BG.out)).2.2.1, (cells6 (blk_drew BG.out)).2.2.2.1, (cells6 (blk_drew BG.out)).2.2.2.2.1, (cells6 (blk_drew BG.out)).2.2.2.2.2, (HJW.out.step (below_drew1 (Below.refl _ _))).at.cells.2.2.2.2⟩ (fun hHeld => ?_)
    refine with_tabW explainT.tab4 explainT.bits4 (fun HT_ HW_ => ?_)
    replace hm1 := Aside0.mk (blk_drew hm1.out)
    replace BG := Aside0.mk (blk_drew BG.out)
    replace HJW := Aside0.mk (HJW.out.step (below_drew1 (Below.refl _ _)))
    replace HK := Aside0.mk (HK.out.trans (kb_of_below (below_drew1 (Below.refl _ _))))
    generalize w5.drew = w6 at hm1 BG HJW HK hHeld ⊢
    refine pure_ (i := 0) (N := some 25) (v := ?_) (a' := ?_) #[true, false, false, false, false, false, false] rfl rfl (any_of HT_.out (by kernel_rfl)) (fun _ _ _ h => h) (Or.inl ⟨by rfl, ?_⟩) ?_ ?_
    rotate_left
    · intro w'
      go_simp
      with_reducible rfl
    rotate_left
    · simp only [Act.put, List.setIfInBounds_toArray, List.set_cons_zero, List.set_cons_succ, i64_w, i32_w]
      rfl
    refine pure_ (i := 1) (N := some 26) (v := ?_) (a' := ?_) #[true, true, false, false, false, false, false] rfl rfl (any_of HT_.out (by kernel_rfl)) (fun _ _ _ h => h) (Or.inl ⟨by rfl, ?_⟩) ?_ ?_
    rotate_left
    · intro w'
      go_simp
      with_reducible rfl
    rotate_left
    · simp only [Act.put, List.setIfInBounds_toArray, List.set_cons_zero, List.set_cons_succ, i64_w, i32_w]
      rfl
    refine pure_ (i := 2) (N := some 27) (v := ?_) (a' := ?_) #[true, true, true, false, false, false, false] rfl rfl (any_of HT_.out (by kernel_rfl)) (fun _ _ _ h => h) (Or.inl ⟨by rfl, ?_⟩) ?_ ?_
    rotate_left
    · intro w'
      go_simp
      with_reducible rfl
    rotate_left
    · simp only [Act.put, List.setIfInBounds_toArray, List.set_cons_zero, List.set_cons_succ, i64_w, i32_w]
      rfl
    refine pure_ (i := 5) (N := some 30) (v := ?_) (a' := ?_) #[true, true, true, false, false, true, false] rfl rfl (any_of HT_.out (by kernel_rfl)) (fun _ _ _ h => h) (Or.inl ⟨by rfl, ?_⟩) ?_ ?_
    rotate_left
    · intro w'
      go_simp
      with_reducible rfl
    rotate_left
    · simp only [Act.put, List.setIfInBounds_toArray, List.set_cons_zero, List.set_cons_succ, i64_w, i32_w]
      rfl
    refine take_ (i := 3) (N := some 28) (v := ?_) (a' := ?_) #[true, true, true, true, false, true, false] rfl rfl (take_ofW HT_.out HW_.out (by kernel_rfl)) (fun _ _ _ h => h) (Or.inl ⟨by rfl, ?_⟩) hHeld ?_ ?_
    rotate_left
    · rintro w' ⟨s0, s1, s2, s3, s4, s5, s6⟩
      go_simp
      with_reducible rfl
    rotate_left
    · simp only [Act.put, List.setIfInBounds_toArray, List.set_cons_zero, List.set_cons_succ, i64_w, i32_w]
      rfl
    refine take_ (i := 4) (N := some 29) (v := ?_) (a' := ?_) #[true, true, true, true, true, true, false] rfl rfl (take_ofW HT_.out HW_.out (by kernel_rfl)) (fun _ _ _ h => h) (Or.inl ⟨by rfl, ?_⟩) hHeld ?_ ?_
    rotate_left
    · rintro w' ⟨s0, s1, s2, s3, s4, s5, s6⟩
      go_simp
      with_reducible rfl
    rotate_left
    · simp only [Act.put, List.setIfInBounds_toArray, List.set_cons_zero, List.set_cons_succ, i64_w, i32_w]
      rfl
    refine last_ (i := 6) (N := none) #[true, true, true, true, true, true, true] rfl rfl (one_of HT_.out (by kernel_rfl)) (by decide) (fun K hK => ?_)
    have hup := update85 o (spansF lots samples spread labs o (-1) 0).2 _ w6 mb es cl hm1.out hm2.out (hb2.out (by simp))
    refine skip_ (w1 := ?_) (by rfl) rfl ?_ ?_
    rotate_left
    · go_simp
      rfl
    clear hup
    refine hK.out _ _ ?_
    clear hK K
    refine done_ (done_of HT_.out (by kernel_rfl)) ?_

    clear hHeld
    have HJ2 := Aside0.mk (HJW.out.put _ (cl + 1) (hm2.out.push o cl))
    have HK2 := Aside0.mk (HK.out.trans (⟨rfl, rfl, rfl, by simp, fun k _ hk => World.putObj_heap_other hk⟩ : Kb W.heap.size mb w6 (w6.putObj mb (.map (es.push { key := offV o, val := .bool (canF lots samples spread labs o), born := cl }) (cl + 1)))))
    go_wp2
    go_ret
    exact ⟨rfl, HJ2.out, HK2.out⟩
  · go_wp2
    go_ret
    exact ⟨by rw [hb1.out (by simp)]; rfl, HJW.out, HK.out⟩
end Go.Proofs.Ytcpbhklaffgokaa.Q
