import Derived.DeepKeys4
import Derived.Test.YtcpbhklaffgokaaC14x8
namespace Go.Proofs.Ytcpbhklaffgokaa.Q
open Go.RowKit Go.Proofs.YtcpbhklaffgokaaW.PrintWords Go.Proofs.YtcpbhklaffgokaaW.PrintLast Go.Proofs.YtcpbhklaffgokaaW.PrintMore
set_option linter.unusedVariables false
set_option linter.unusedSimpArgs false
abbrev offV (o : Nat → Bool) : Value := .agg #[.bool (o 0), .bool (o 1), .bool (o 2), .bool (o 3), .bool (o 4), .bool (o 5)]
theorem laidOut : laidOutB Try.prog = true := by kernel_rfl
theorem keyT : Try.prog.keyTypeAt 2 85 = true := by kernel_rfl
theorem law85 : WideMaps.KeyLaw Try.prog 85 := deep_law_laid laidOut (m := 2) (by decide) (of_decide_eq_true (by kernel_rfl)) keyT (by kernel_rfl)
theorem key85 (o : Nat → Bool) : keyOf Try.prog 85 (offV o) = some (.string (keyBytes [.bool (o 0), .bool (o 1), .bool (o 2), .bool (o 3), .bool (o 4), .bool (o 5)])) := by kernel_rfl
theorem offV_inj {o o' : Nat → Bool} (h : offV o = offV o') : ∀ k, k < 6 → o k = o' k := by
 simp only [offV, Value.agg.injEq] at h
 have h := congrArg Array.toList h
 simp only [List.cons.injEq, Value.bool.injEq] at h
 obtain ⟨h0, h1, h2, h3, h4, h5, _⟩ := h
 intro k hk
 match k, hk with
 | 0, _ => exact h0
 | 1, _ => exact h1
 | 2, _ => exact h2
 | 3, _ => exact h3
 | 4, _ => exact h4
 | 5, _ => exact h5
def MapOk (can : (Nat → Bool) → Bool) (es : Array MapEntry) : Prop := ∀ e ∈ es.toList, ∃ o, e.key = offV o ∧ e.val = .bool (can o)
theorem zero4 (w : World) : (zeroValue 4).run Try.prog w = .ok (.bool false) w := by kernel_rfl
theorem run_getObj_map {P : Program} {w : World} {r : Nat} {es : Array MapEntry} {c : Nat} (h : w.heap[r]? = some (.map es c)) : (getObj r).run P w = .ok (.map es c) w := by simp [getObj, Sem.run, h]
theorem lookup85 (can : (Nat → Bool) → Bool) (hcan : ∀ o o', (∀ k, k < 6 → o k = o' k) → can o = can o') (o : Nat → Bool) (w : World) (mb : Nat) (es : Array MapEntry) (c : Nat) (hm : w.heap[mb]? = some (.map es c)) (hok : MapOk can es) :
  ∃ b ok : Bool, (Instr.lookup 105 (.map (some mb)) (offV o) true).run Try.prog w = .ok (.tuple #[.bool b, .bool ok]) w ∧ (ok = true → b = can o) ∧ (ok = false → ∀ e ∈ es.toList, e.key ≠ offV o) := by
 have hk := key85 o
 have hc := law85.check w es.isEmpty hk
 rcases law85.find w hk es.toList (fun e he => by obtain ⟨o', h1, _⟩ := hok e he; rw [h1]; exact ⟨_, key85 o'⟩) with ⟨hf, hne⟩ | ⟨j, e, hf, hj, he⟩
 ·refine ⟨false, false, ?_, by simp, fun _ => hne⟩
  simp only [Instr.lookup, Sem.run_bind, run_underlying Try.underlying105, Result.andThen_ok, run_getObj_map hm, hc, hf, zero4, Sem.run_pure, if_true]
 ·obtain ⟨o', h1, h2⟩ := hok e (List.mem_of_getElem? hj)
  refine ⟨can o', true, ?_, fun _ => hcan _ _ (offV_inj (h1.symm.trans he)), by simp⟩
  simp only [Instr.lookup, Sem.run_bind, run_underlying Try.underlying105, Result.andThen_ok, run_getObj_map hm, hc, hf, h2, Sem.run_pure, if_true]
theorem update85 (o : Nat → Bool) (b : Bool) (can : (Nat → Bool) → Bool) (w : World) (mb : Nat) (es : Array MapEntry) (c : Nat) (hm : w.heap[mb]? = some (.map es c)) (hok : MapOk can es) (hne : ∀ e ∈ es.toList, e.key ≠ offV o) :
  (Instr.mapUpdate 105 (.map (some mb)) (offV o) (.bool b)).run Try.prog w = .ok () (w.putObj mb (.map (es.push { key := offV o, val := .bool b, born := c }) (c + 1))) := by
 have hk := key85 o
 have hc := law85.check w false hk
 rcases law85.find w hk es.toList (fun e he => by obtain ⟨o', h1, _⟩ := hok e he; rw [h1]; exact ⟨_, key85 o'⟩) with ⟨hf, _⟩ | ⟨j, e, hf, hj, he⟩
 ·simp only [Instr.mapUpdate, Sem.run_bind, run_underlying Try.underlying105, Result.andThen_ok, run_getObj_map hm, hc, hf]
  simp [setObj, Sem.run, hm, World.putObj]
 ·exact absurd he (hne e (List.mem_of_getElem? hj))
theorem readsFrom_congr (o o' : Nat → Bool) (lab d i : Int) : ∀ (xs : List S75) (k : Nat), k + xs.length ≤ 6 → (∀ j, j < 6 → o j = o' j) → readsFrom o lab d i k xs = readsFrom o' lab d i k xs := by
 intro xs
 induction xs with
 | nil => intro k _ _; rfl
 | cons x xs ih =>
  intro k hk h
  have hl : k + (xs.length + 1) ≤ 6 := hk
  simp only [readsFrom]
  rw [h k (by omega), ih (k + 1) (by omega) h]
theorem spansFrom_congr (labs : List S75) (spread : Int) (o o' : Nat → Bool) (lab d : Int) (hl : labs.length ≤ 6) (h : ∀ j, j < 6 → o j = o' j) : ∀ (ss : List Int) (i : Nat) (lots out : List S46), spansFrom labs spread o lab d i ss lots out = spansFrom labs spread o' lab d i ss lots out := by
 intro ss
 induction ss with
 | nil => intro i lots out; rfl
 | cons s ss ih =>
  intro i lots out
  have hs : sampR labs o lab d i = sampR labs o' lab d i := by unfold sampR; rw [readsFrom_congr o o' lab d i labs 0 (by omega) h]
  simp only [spansFrom, hs, ih]
def canF (lots : List S46) (samples : List Int) (spread : Int) (labs : List S75) (o : Nat → Bool) : Bool := (spansF lots samples spread labs o (-1) 0).2
theorem canF_congr (lots : List S46) (samples : List Int) (spread : Int) (labs : List S75) (hl : labs.length ≤ 6) (o o' : Nat → Bool) (h : ∀ j, j < 6 → o j = o' j) : canF lots samples spread labs o = canF lots samples spread labs o' := by
 unfold canF spansF
 rw [spansFrom_congr labs spread o o' (-1) 0 hl h]
structure JW (w0 : World) (jb mb : Nat) (A0 : Option Addr) (c0 : Nat) (lots : List S46) (A1 : Option Addr) (c1 : Nat) (samples : List Int) (spread : Int) (A3 : Option Addr) (c3 : Nat) (labs : List S75) (W : World) : Prop where
 r0 : Kd.C k46 w0 A0 lots.length lots
 r1 : (Kd.int .i64).C w0 A1 samples.length samples
 r3 : Kd.C k75 w0 A3 labs.length labs
 hb : Below w0.heap.size w0 W
 gj : w0.heap.size ≤ jb
 gm : w0.heap.size ≤ mb
 blk : W.heap[jb]? = some (.cells #[.slice A0 lots.length c0, .slice A1 samples.length c1, .int .i64 spread, .slice A3 labs.length c3, .map (some mb)] 107 (0, 0))
 map : ∃ es c, W.heap[mb]? = some (.map es c) ∧ MapOk (canF lots samples spread labs) es
theorem JW.at {w0 W : World} {jb mb : Nat} {A0 : Option Addr} {c0 : Nat} {lots : List S46} {A1 : Option Addr} {c1 : Nat} {samples : List Int} {spread : Int} {A3 : Option Addr} {c3 : Nat} {labs : List S75} (h : JW w0 jb mb A0 c0 lots A1 c1 samples spread A3 c3 labs W) : JAt W jb A0 c0 lots A1 c1 samples spread A3 c3 labs (.map (some mb)) :=
 ⟨h.blk, Kd.C_below h.r0 h.hb, Kd.C_below h.r1 h.hb, Kd.C_below h.r3 h.hb⟩
theorem JW.step {w0 W W' : World} {jb mb : Nat} {A0 : Option Addr} {c0 : Nat} {lots : List S46} {A1 : Option Addr} {c1 : Nat} {samples : List Int} {spread : Int} {A3 : Option Addr} {c3 : Nat} {labs : List S75} (h : JW w0 jb mb A0 c0 lots A1 c1 samples spread A3 c3 labs W) (hb : Below W.heap.size W W') : JW w0 jb mb A0 c0 lots A1 c1 samples spread A3 c3 labs W' := by
 obtain ⟨es, c, h1, h2⟩ := h.map
 exact ⟨h.r0, h.r1, h.r3, below_step h.hb hb, h.gj, h.gm, blk_below h.blk hb, es, c, blk_below h1 hb, h2⟩
theorem JW.put {w0 W : World} {jb mb : Nat} {A0 : Option Addr} {c0 : Nat} {lots : List S46} {A1 : Option Addr} {c1 : Nat} {samples : List Int} {spread : Int} {A3 : Option Addr} {c3 : Nat} {labs : List S75} (h : JW w0 jb mb A0 c0 lots A1 c1 samples spread A3 c3 labs W) (es : Array MapEntry) (c : Nat) (hok : MapOk (canF lots samples spread labs) es) : JW w0 jb mb A0 c0 lots A1 c1 samples spread A3 c3 labs (W.putObj mb (.map es c)) := by
 obtain ⟨es0, c0', h1, _⟩ := h.map
 have hne : jb ≠ mb := fun e => by have := h.blk; rw [e, h1] at this; cases this
 refine ⟨h.r0, h.r1, h.r3, h.hb.trans ⟨rfl, rfl, rfl, by simp, fun k hk => World.putObj_heap_other (by have := h.gm; omega)⟩, h.gj, h.gm, (World.putObj_heap_other hne).trans h.blk, es, c, World.putObj_heap_same (blk_lt h1), hok⟩
def ExPost (w0 : World) (jb mb : Nat) (A0 : Option Addr) (c0 : Nat) (lots : List S46) (A1 : Option Addr) (c1 : Nat) (samples : List Int) (spread : Int) (A3 : Option Addr) (c3 : Nat) (labs : List S75) (b : Bool) (W : World) (e : Ending) (W' : World) : Prop := e = .returned (.bool b) ∧ JW w0 jb mb A0 c0 lots A1 c1 samples spread A3 c3 labs W' ∧ Kb W.heap.size mb W W'
theorem MapOk.push {can : (Nat → Bool) → Bool} {es : Array MapEntry} (h : MapOk can es) (o : Nat → Bool) (c : Nat) : MapOk can (es.push { key := offV o, val := .bool (can o), born := c }) := fun e he => by
 rw [Array.toList_push] at he
 rcases List.mem_append.1 he with he | he
 ·exact h e he
 ·rw [List.mem_singleton.1 he]; exact ⟨o, rfl, rfl⟩
theorem cells6 {W : World} {g : Nat} {a b c d e f : Value} {t : TypeId} (h : W.heap[g]? = some (.cells #[a, b, c, d, e, f] t (0, 0))) :
  W.cell? ⟨g, 0, none⟩ = some a ∧ W.cell? ⟨g, 1, none⟩ = some b ∧ W.cell? ⟨g, 2, none⟩ = some c ∧ W.cell? ⟨g, 3, none⟩ = some d ∧ W.cell? ⟨g, 4, none⟩ = some e ∧ W.cell? ⟨g, 5, none⟩ = some f :=
 ⟨(blk_cell h 0).trans rfl, (blk_cell h 1).trans rfl, (blk_cell h 2).trans rfl, (blk_cell h 3).trans rfl, (blk_cell h 4).trans rfl, (blk_cell h 5).trans rfl⟩
def explainT.T1 : Bool × List (List Nat × List Nat) := (true, [([], []), ([0], [0]), ([1], [1]), ([2], [2]), ([], []), ([3, 4], [3, 4]), ([5], [5]), ([6], [6]), ([6], [6]), ([7, 0, 1, 2, 3, 4, 5, 6, 7], [7]), ([8, 9, 0, 1, 2, 3, 4, 5, 6, 7, 8, 9], [8])])
def explainT.B1 : List Nat := [0, 1, 3, 7, 0, 31, 63, 127, 127, 255, 1023]
theorem explainT.tab1 : rtab .any (opsOf Try.f52 1) = explainT.T1 := by kernel_rfl
theorem explainT.bits1 : waitsOk explainT.T1.2 explainT.B1 = true := by kernel_rfl
def explainT.T3 : Bool × List (List Nat × List Nat) := (true, [([], []), ([], []), ([], []), ([0, 1, 2, 2], [0, 1, 2]), ([3], [3]), ([4], [4]), ([4], [4]), ([6, 3, 0, 1, 2, 3, 4, 5, 6], [6])])
def explainT.B3 : List Nat := [0, 0, 0, 7, 15, 31, 31, 127]
theorem explainT.tab3 : rtab .any (opsOf Try.f52 3) = explainT.T3 := by kernel_rfl
theorem explainT.bits3 : waitsOk explainT.T3.2 explainT.B3 = true := by kernel_rfl
def explainT.T4 : Bool × List (List Nat × List Nat) := (true, [([], []), ([0], [0]), ([1], [1]), ([2], [2]), ([], []), ([], []), ([3, 4, 5, 0, 1, 2, 3, 4, 5], [3, 4, 5])])
def explainT.B4 : List Nat := [0, 1, 3, 7, 0, 0, 63]
theorem explainT.tab4 : rtab .any (opsOf Try.f52 4) = explainT.T4 := by kernel_rfl
theorem explainT.bits4 : waitsOk explainT.T4.2 explainT.B4 = true := by kernel_rfl
set_option maxHeartbeats 8000000 in
set_option maxRecDepth 100000 in
theorem explain_any (w0 : World) (jb mb : Nat) (A0 : Option Addr) (c0 : Nat) (lots : List S46) (A1 : Option Addr) (c1 : Nat) (samples : List Int) (spread : Int) (A3 : Option Addr) (c3 : Nat) (labs : List S75) (o : Nat → Bool) (W : World) (hj : JW w0 jb mb A0 c0 lots A1 c1 samples spread A3 c3 labs W) (hok : RoundOk lots samples spread labs) :
  Calls Try.prog 52 #[.pointer (some ⟨jb, 0, none⟩), .agg #[.bool (o 0), .bool (o 1), .bool (o 2), .bool (o 3), .bool (o 4), .bool (o 5)]] W (ExPost w0 jb mb A0 c0 lots A1 c1 samples spread A3 c3 labs (canF lots samples spread labs o) W) := by
 have b6 := hok.b6
 have HJW := Aside0.mk (hj.step (below_alloc (Below.refl _ _) (.cells #[.bool (o 0), .bool (o 1), .bool (o 2), .bool (o 3), .bool (o 4), .bool (o 5)] 85)))
 have HK := Aside0.mk (kb_of_below (R := mb) (below_alloc (Below.refl _ W) (.cells #[.bool (o 0), .bool (o 1), .bool (o 2), .bool (o 3), .bool (o 4), .bool (o 5)] 85)))
 have BG := Aside0.mk (blk_new W (.cells #[.bool (o 0), .bool (o 1), .bool (o 2), .bool (o 3), .bool (o 4), .bool (o 5)] 85))
 clear hj
 go_enter Try.func52, Try.ntmps52
 go_wp2
 generalize W.alloc (.cells #[.bool (o 0), .bool (o 1), .bool (o 2), .bool (o 3), .bool (o 4), .bool (o 5)] 85) = w1 at BG HJW HK ⊢
 refine start_ (n := 11) (S := fun w' => w'.cell? ⟨W.heap.size, 0, none⟩ = some (.bool (o 0)) ∧ w'.cell? ⟨W.heap.size, 1, none⟩ = some (.bool (o 1)) ∧ w'.cell? ⟨W.heap.size, 2, none⟩ = some (.bool (o 2)) ∧ w'.cell? ⟨W.heap.size, 3, none⟩ = some (.bool (o 3)) ∧ w'.cell? ⟨W.heap.size, 4, none⟩ = some (.bool (o 4)) ∧ w'.cell? ⟨W.heap.size, 5, none⟩ = some (.bool (o 5)) ∧ w'.cell? ⟨jb, 4, none⟩ = some (.map (some mb))) (ds := []) #[false, false, false, false, false, false, false, false, false, false, false] (by kernel_rfl) rfl rfl ⟨(cells6 (blk_drew BG.out)).1, (cells6 (blk_drew BG.out)).2.1, (cells6 (blk_drew BG.out)).2.2.1, (cells6 (blk_drew BG.out)).2.2.2.1, (cells6 (blk_drew BG.out)).2.2.2.2.1, (cells6 (blk_drew BG.out)).2.2.2.2.2, (HJW.out.step (below_drew1 (Below.refl _ _))).at.cells.2.2.2.2⟩ (fun hHeld => ?_)
 refine with_tabW explainT.tab1 explainT.bits1 (fun HT_ HW_ => ?_)
 replace BG := Aside0.mk (blk_drew BG.out)
 replace HJW := Aside0.mk (HJW.out.step (below_drew1 (Below.refl _ _)))
 replace HK := Aside0.mk (HK.out.trans (kb_of_below (below_drew1 (Below.refl _ _))))
 generalize w1.drew = w2 at BG HJW HK hHeld ⊢
 refine pure_ (i := 0) (N := some 8) (v := ?_) (a' := ?_) #[true, false, false, false, false, false, false, false, false, false, false] rfl rfl (any_of HT_.out (by kernel_rfl)) (fun _ _ _ h => h) (Or.inl ⟨by rfl, ?_⟩) ?_ ?_
 rotate_left
 ·intro w'
  go_simp
  with_reducible rfl
 rotate_left
 ·simp only [Act.put, List.setIfInBounds_toArray, List.set_cons_zero, List.set_cons_succ, i64_w, i32_w]
  rfl
 refine pure_ (i := 1) (N := some 9) (v := ?_) (a' := ?_) #[true, true, false, false, false, false, false, false, false, false, false] rfl rfl (any_of HT_.out (by kernel_rfl)) (fun _ _ _ h => h) (Or.inl ⟨by rfl, ?_⟩) ?_ ?_
 rotate_left
 ·intro w'
  go_simp
  with_reducible rfl
 rotate_left
 ·simp only [Act.put, List.setIfInBounds_toArray, List.set_cons_zero, List.set_cons_succ, i64_w, i32_w]
  rfl
 refine pure_ (i := 2) (N := some 10) (v := ?_) (a' := ?_) #[true, true, true, false, false, false, false, false, false, false, false] rfl rfl (any_of HT_.out (by kernel_rfl)) (fun _ _ _ h => h) (Or.inl ⟨by rfl, ?_⟩) ?_ ?_
 rotate_left
 ·intro w'
  go_simp
  with_reducible rfl
 rotate_left
 ·simp only [Act.put, List.setIfInBounds_toArray, List.set_cons_zero, List.set_cons_succ, i64_w, i32_w]
  rfl
 refine take_ (i := 3) (N := some 11) (v := ?_) (a' := ?_) #[true, true, true, true, false, false, false, false, false, false, false] rfl rfl (take_ofW HT_.out HW_.out (by kernel_rfl)) (fun _ _ _ h => h) (Or.inl ⟨by rfl, ?_⟩) hHeld ?_ ?_
 rotate_left
 ·rintro w' ⟨s0, s1, s2, s3, s4, s5, s6⟩
  go_simp
  with_reducible rfl
 rotate_left
 ·simp only [Act.put, List.setIfInBounds_toArray, List.set_cons_zero, List.set_cons_succ, i64_w, i32_w]
  rfl
 refine take_ (i := 4) (N := some 12) (v := ?_) (a' := ?_) #[true, true, true, true, true, false, false, false, false, false, false] rfl rfl (take_ofW HT_.out HW_.out (by kernel_rfl)) (fun _ _ _ h => h) (Or.inl ⟨by rfl, ?_⟩) hHeld ?_ ?_
 rotate_left
 ·rintro w' ⟨s0, s1, s2, s3, s4, s5, s6⟩
  go_simp
  with_reducible rfl
 rotate_left
 ·simp only [Act.put, List.setIfInBounds_toArray, List.set_cons_zero, List.set_cons_succ, i64_w, i32_w]
  rfl
 refine one_ (i := 5) (N := some 13) #[true, true, true, true, true, true, false, false, false, false, false] rfl rfl (one_of HT_.out (by kernel_rfl)) (by decide) (fun K hK => ?_)
 obtain ⟨es, cl, hm1, hm2⟩ := HJW.out.map
 obtain ⟨b, ok, hlk, hb1, hb2⟩ := lookup85 _ (canF_congr lots samples spread labs b6) o w2 mb es cl hm1 hm2
 replace hm1 := Aside0.mk hm1
 replace hm2 := Aside0.mk hm2
 replace hb1 := Aside0.mk hb1
 replace hb2 := Aside0.mk hb2
 refine value_ (w1 := ?_) (v := ?_) (by rfl) rfl ?_ ?_
 rotate_left 2
 ·go_simp
  constructor
  ·rfl
  ·rfl
 clear hlk
 refine hK.out _ _ ⟨(cells6 BG.out).1, (cells6 BG.out).2.1, (cells6 BG.out).2.2.1, (cells6 BG.out).2.2.2.1, (cells6 BG.out).2.2.2.2.1, (cells6 BG.out).2.2.2.2.2, HJW.out.at.cells.2.2.2.2⟩ (fun hHeld => ?_)
 clear hK K
 refine norm_ (a' := ?_) ?_ ?_
 rotate_left
 ·show Act.put _ (some 13) _ = _
  simp only [Act.put, List.setIfInBounds_toArray, List.set_cons_zero, List.set_cons_succ, i64_w, i32_w]
  rfl
 refine pure_ (i := 6) (N := some 7) (v := ?_) (a' := ?_) #[true, true, true, true, true, true, true, false, false, false, false] rfl rfl (any_of HT_.out (by kernel_rfl)) (fun _ _ _ h => h) (Or.inl ⟨by rfl, ?_⟩) ?_ ?_
 rotate_left
 ·intro w'
  go_simp
  with_reducible rfl
 rotate_left
 ·simp only [Act.put, List.setIfInBounds_toArray, List.set_cons_zero, List.set_cons_succ, i64_w, i32_w]
  rfl
 refine pure_ (i := 7) (N := some 14) (v := ?_) (a' := ?_) #[true, true, true, true, true, true, true, true, false, false, false] rfl rfl (any_of HT_.out (by kernel_rfl)) (fun _ _ _ h => h) (Or.inl ⟨by rfl, ?_⟩) ?_ ?_
 rotate_left
 ·intro w'
  go_simp
  with_reducible rfl
 rotate_left
 ·simp only [Act.put, List.setIfInBounds_toArray, List.set_cons_zero, List.set_cons_succ, i64_w, i32_w]
  rfl
 refine pure_ (i := 8) (N := some 15) (v := ?_) (a' := ?_) #[true, true, true, true, true, true, true, true, true, false, false] rfl rfl (any_of HT_.out (by kernel_rfl)) (fun _ _ _ h => h) (Or.inl ⟨by rfl, ?_⟩) ?_ ?_
 rotate_left
 ·intro w'
  go_simp
  with_reducible rfl
 rotate_left
 ·simp only [Act.put, List.setIfInBounds_toArray, List.set_cons_zero, List.set_cons_succ, i64_w, i32_w]
  rfl
 refine pure_ (i := 9) (N := some 5) (v := ?_) (a' := ?_) #[true, true, true, true, true, true, true, true, true, true, false] rfl rfl (any_of HT_.out (by kernel_rfl)) (fun _ _ _ h => h) (Or.inl ⟨by rfl, ?_⟩) ?_ ?_
 rotate_left
 ·intro w'
  go_simp
  with_reducible rfl
 rotate_left
 ·simp only [Act.put, List.setIfInBounds_toArray, List.set_cons_zero, List.set_cons_succ, i64_w, i32_w]
  rfl
 refine pure_ (i := 10) (N := some 6) (v := ?_) (a' := ?_) #[true, true, true, true, true, true, true, true, true, true, true] rfl rfl (any_of HT_.out (by kernel_rfl)) (fun _ _ _ h => h) (Or.inl ⟨by rfl, ?_⟩) ?_ ?_
 rotate_left
 ·intro w'
  go_simp
  with_reducible rfl
 rotate_left
 ·simp only [Act.put, List.setIfInBounds_toArray, List.set_cons_zero, List.set_cons_succ, i64_w, i32_w]
  rfl
 refine done_ (done_of HT_.out (by kernel_rfl)) ?_
 clear hHeld
 cases ok
 ·go_wp2
  refine start_ (n := 8) (S := fun w' => w'.cell? ⟨W.heap.size, 0, none⟩ = some (.bool (o 0)) ∧ w'.cell? ⟨W.heap.size, 1, none⟩ = some (.bool (o 1)) ∧ w'.cell? ⟨W.heap.size, 2, none⟩ = some (.bool (o 2)) ∧ w'.cell? ⟨W.heap.size, 3, none⟩ = some (.bool (o 3)) ∧ w'.cell? ⟨W.heap.size, 4, none⟩ = some (.bool (o 4)) ∧ w'.cell? ⟨W.heap.size, 5, none⟩ = some (.bool (o 5))) (ds := []) #[false, false, false, false, false, false, false, false] (by kernel_rfl) rfl rfl ⟨(cells6 (blk_drew BG.out)).1, (cells6 (blk_drew BG.out)).2.1, (cells6 (blk_drew BG.out)).2.2.1, (cells6 (blk_drew BG.out)).2.2.2.1, (cells6 (blk_drew BG.out)).2.2.2.2.1, (cells6 (blk_drew BG.out)).2.2.2.2.2⟩ (fun hHeld => ?_)
  refine with_tabW explainT.tab3 explainT.bits3 (fun HT_ HW_ => ?_)
  replace hm1 := Aside0.mk (blk_drew hm1.out)
  replace BG := Aside0.mk (blk_drew BG.out)
  replace HJW := Aside0.mk (HJW.out.step (below_drew1 (Below.refl _ _)))
  replace HK := Aside0.mk (HK.out.trans (kb_of_below (below_drew1 (Below.refl _ _))))
  generalize w2.drew = w3 at hm1 BG HJW HK hHeld ⊢
  refine pure_ (i := 0) (N := some 19) (v := ?_) (a' := ?_) #[true, false, false, false, false, false, false, false] rfl rfl (any_of HT_.out (by kernel_rfl)) (fun _ _ _ h => h) (Or.inl ⟨by rfl, ?_⟩) ?_ ?_
  rotate_left
  ·intro w'
   go_simp
   with_reducible rfl
  rotate_left
  ·simp only [Act.put, List.setIfInBounds_toArray, List.set_cons_zero, List.set_cons_succ, i64_w, i32_w]
   rfl
  refine take_ (i := 1) (N := some 20) (v := ?_) (a' := ?_) #[true, true, false, false, false, false, false, false] rfl rfl (take_ofW HT_.out HW_.out (by kernel_rfl)) (fun _ _ _ h => h) (Or.inl ⟨by rfl, ?_⟩) hHeld ?_ ?_
  rotate_left
  ·rintro w' ⟨s0, s1, s2, s3, s4, s5⟩
   go_simp
   with_reducible rfl
  rotate_left
  ·simp only [Act.put, List.setIfInBounds_toArray, List.set_cons_zero, List.set_cons_succ, i64_w, i32_w]
   rfl
  refine one_ (i := 2) (N := some 21) #[true, true, true, false, false, false, false, false] rfl rfl (one_of HT_.out (by kernel_rfl)) (by decide) (fun K hK => ?_)
  refine goes_ Try.func55 (by kernel_rfl) rfl #[] (by rfl) rfl rfl (by simp only [List.map_toArray, List.map_cons, List.map_nil]) ?_
  with_reducible refine (nobody_any _).mono ?_
  rintro e w4 ⟨rfl, hb⟩
  refine ⟨_, rfl, ?_⟩
  replace BG := Aside0.mk (blk_below BG.out hb)
  replace HJW := Aside0.mk (HJW.out.step hb)
  replace hm1 := Aside0.mk (blk_below hm1.out hb)
  replace HK := Aside0.mk (HK.out.trans (kb_of_below (hb.mono HK.out.size)))
  clear hb
  refine hK.out _ _ ⟨(cells6 BG.out).1, (cells6 BG.out).2.1, (cells6 BG.out).2.2.1, (cells6 BG.out).2.2.2.1, (cells6 BG.out).2.2.2.2.1, (cells6 BG.out).2.2.2.2.2⟩ (fun hHeld => ?_)
  clear hK K
  refine norm_ (a' := ?_) ?_ ?_
  rotate_left
  ·show Act.put _ (some 21) _ = _
   simp only [Act.put, List.setIfInBounds_toArray, List.set_cons_zero, List.set_cons_succ, i64_w, i32_w]
   rfl
  refine one_ (i := 3) (N := some 22) #[true, true, true, true, false, false, false, false] rfl rfl (one_of HT_.out (by kernel_rfl)) (by decide) (fun K hK => ?_)
  refine goes_ Try.func54 (by kernel_rfl) rfl #[.pointer (some ⟨jb, 0, none⟩), .agg #[.bool (o 0), .bool (o 1), .bool (o 2), .bool (o 3), .bool (o 4), .bool (o 5)], .agg #[.int .i64 (-1), .int .i64 0]] (by rfl) rfl rfl (by simp only [List.map_toArray, List.map_cons, List.map_nil]; rfl) ?_
  with_reducible refine (spans_any jb A0 c0 lots A1 c1 samples spread A3 c3 labs (.map (some mb)) o (-1) 0 _ HJW.out.at hok (by omega) (by omega)).mono ?_
  rintro e w5 ⟨vs, rfl, hrow, hb⟩
  refine ⟨_, rfl, ?_⟩
  clear hrow
  replace BG := Aside0.mk (blk_below BG.out hb)
  replace HJW := Aside0.mk (HJW.out.step hb)
  replace hm1 := Aside0.mk (blk_below hm1.out hb)
  replace HK := Aside0.mk (HK.out.trans (kb_of_below (hb.mono HK.out.size)))
  clear hb
  refine hK.out _ _ ⟨(cells6 BG.out).1, (cells6 BG.out).2.1, (cells6 BG.out).2.2.1, (cells6 BG.out).2.2.2.1, (cells6 BG.out).2.2.2.2.1, (cells6 BG.out).2.2.2.2.2⟩ (fun hHeld => ?_)
  clear hK K
  refine norm_ (a' := ?_) ?_ ?_
  rotate_left
  ·show Act.put _ (some 22) _ = _
   simp only [Act.put, List.setIfInBounds_toArray, List.set_cons_zero, List.set_cons_succ, i64_w, i32_w]
   rfl
  refine pure_ (i := 4) (N := some 18) (v := ?_) (a' := ?_) #[true, true, true, true, true, false, false, false] rfl rfl (any_of HT_.out (by kernel_rfl)) (fun _ _ _ h => h) (Or.inl ⟨by rfl, ?_⟩) ?_ ?_
  rotate_left
  ·intro w'
   go_simp
   with_reducible rfl
  rotate_left
  ·simp only [Act.put, List.setIfInBounds_toArray, List.set_cons_zero, List.set_cons_succ, i64_w, i32_w]
   rfl
  refine pure_ (i := 5) (N := some 23) (v := ?_) (a' := ?_) #[true, true, true, true, true, true, false, false] rfl rfl (any_of HT_.out (by kernel_rfl)) (fun _ _ _ h => h) (Or.inl ⟨by rfl, ?_⟩) ?_ ?_
  rotate_left
  ·intro w'
   go_simp
   with_reducible rfl
  rotate_left
  ·simp only [Act.put, List.setIfInBounds_toArray, List.set_cons_zero, List.set_cons_succ, i64_w, i32_w]
   rfl
  refine pure_ (i := 6) (N := some 24) (v := ?_) (a' := ?_) #[true, true, true, true, true, true, true, false] rfl rfl (any_of HT_.out (by kernel_rfl)) (fun _ _ _ h => h) (Or.inl ⟨by rfl, ?_⟩) ?_ ?_
  rotate_left
  ·intro w'
   go_simp
   with_reducible rfl
  rotate_left
  ·simp only [Act.put, List.setIfInBounds_toArray, List.set_cons_zero, List.set_cons_succ, i64_w, i32_w]
   rfl
  refine pure_ (i := 7) (N := some 5) (v := ?_) (a' := ?_) #[true, true, true, true, true, true, true, true] rfl rfl (any_of HT_.out (by kernel_rfl)) (fun _ _ _ h => h) (Or.inl ⟨by rfl, ?_⟩) ?_ ?_
  rotate_left
  ·intro w'
   go_simp
   with_reducible rfl
  rotate_left
  ·simp only [Act.put, List.setIfInBounds_toArray, List.set_cons_zero, List.set_cons_succ, i64_w, i32_w]
   rfl
  refine done_ (done_of HT_.out (by kernel_rfl)) ?_
  clear hHeld
  go_wp2
  refine start_ (n := 7) (S := fun w' => w'.cell? ⟨W.heap.size, 0, none⟩ = some (.bool (o 0)) ∧ w'.cell? ⟨W.heap.size, 1, none⟩ = some (.bool (o 1)) ∧ w'.cell? ⟨W.heap.size, 2, none⟩ = some (.bool (o 2)) ∧ w'.cell? ⟨W.heap.size, 3, none⟩ = some (.bool (o 3)) ∧ w'.cell? ⟨W.heap.size, 4, none⟩ = some (.bool (o 4)) ∧ w'.cell? ⟨W.heap.size, 5, none⟩ = some (.bool (o 5)) ∧ w'.cell? ⟨jb, 4, none⟩ = some (.map (some mb))) (ds := [6]) #[false, false, false, false, false, false, false] (by kernel_rfl) rfl rfl ⟨(cells6 (blk_drew BG.out)).1, (cells6 (blk_drew BG.out)).2.1, (cells6 (blk_drew BG.out)).2.2.1, (cells6 (blk_drew BG.out)).2.2.2.1, (cells6 (blk_drew BG.out)).2.2.2.2.1, (cells6 (blk_drew BG.out)).2.2.2.2.2, (HJW.out.step (below_drew1 (Below.refl _ _))).at.cells.2.2.2.2⟩ (fun hHeld => ?_)
  refine with_tabW explainT.tab4 explainT.bits4 (fun HT_ HW_ => ?_)
  replace hm1 := Aside0.mk (blk_drew hm1.out)
  replace BG := Aside0.mk (blk_drew BG.out)
  replace HJW := Aside0.mk (HJW.out.step (below_drew1 (Below.refl _ _)))
  replace HK := Aside0.mk (HK.out.trans (kb_of_below (below_drew1 (Below.refl _ _))))
  generalize w5.drew = w6 at hm1 BG HJW HK hHeld ⊢
  refine pure_ (i := 0) (N := some 25) (v := ?_) (a' := ?_) #[true, false, false, false, false, false, false] rfl rfl (any_of HT_.out (by kernel_rfl)) (fun _ _ _ h => h) (Or.inl ⟨by rfl, ?_⟩) ?_ ?_
  rotate_left
  ·intro w'
   go_simp
   with_reducible rfl
  rotate_left
  ·simp only [Act.put, List.setIfInBounds_toArray, List.set_cons_zero, List.set_cons_succ, i64_w, i32_w]
   rfl
  refine pure_ (i := 1) (N := some 26) (v := ?_) (a' := ?_) #[true, true, false, false, false, false, false] rfl rfl (any_of HT_.out (by kernel_rfl)) (fun _ _ _ h => h) (Or.inl ⟨by rfl, ?_⟩) ?_ ?_
  rotate_left
  ·intro w'
   go_simp
   with_reducible rfl
  rotate_left
  ·simp only [Act.put, List.setIfInBounds_toArray, List.set_cons_zero, List.set_cons_succ, i64_w, i32_w]
   rfl
  refine pure_ (i := 2) (N := some 27) (v := ?_) (a' := ?_) #[true, true, true, false, false, false, false] rfl rfl (any_of HT_.out (by kernel_rfl)) (fun _ _ _ h => h) (Or.inl ⟨by rfl, ?_⟩) ?_ ?_
  rotate_left
  ·intro w'
   go_simp
   with_reducible rfl
  rotate_left
  ·simp only [Act.put, List.setIfInBounds_toArray, List.set_cons_zero, List.set_cons_succ, i64_w, i32_w]
   rfl
  refine pure_ (i := 5) (N := some 30) (v := ?_) (a' := ?_) #[true, true, true, false, false, true, false] rfl rfl (any_of HT_.out (by kernel_rfl)) (fun _ _ _ h => h) (Or.inl ⟨by rfl, ?_⟩) ?_ ?_
  rotate_left
  ·intro w'
   go_simp
   with_reducible rfl
  rotate_left
  ·simp only [Act.put, List.setIfInBounds_toArray, List.set_cons_zero, List.set_cons_succ, i64_w, i32_w]
   rfl
  refine take_ (i := 3) (N := some 28) (v := ?_) (a' := ?_) #[true, true, true, true, false, true, false] rfl rfl (take_ofW HT_.out HW_.out (by kernel_rfl)) (fun _ _ _ h => h) (Or.inl ⟨by rfl, ?_⟩) hHeld ?_ ?_
  rotate_left
  ·rintro w' ⟨s0, s1, s2, s3, s4, s5, s6⟩
   go_simp
   with_reducible rfl
  rotate_left
  ·simp only [Act.put, List.setIfInBounds_toArray, List.set_cons_zero, List.set_cons_succ, i64_w, i32_w]
   rfl
  refine take_ (i := 4) (N := some 29) (v := ?_) (a' := ?_) #[true, true, true, true, true, true, false] rfl rfl (take_ofW HT_.out HW_.out (by kernel_rfl)) (fun _ _ _ h => h) (Or.inl ⟨by rfl, ?_⟩) hHeld ?_ ?_
  rotate_left
  ·rintro w' ⟨s0, s1, s2, s3, s4, s5, s6⟩
   go_simp
   with_reducible rfl
  rotate_left
  ·simp only [Act.put, List.setIfInBounds_toArray, List.set_cons_zero, List.set_cons_succ, i64_w, i32_w]
   rfl
  refine last_ (i := 6) (N := none) #[true, true, true, true, true, true, true] rfl rfl (one_of HT_.out (by kernel_rfl)) (by decide) (fun K hK => ?_)
  have hup := update85 o (spansF lots samples spread labs o (-1) 0).2 _ w6 mb es cl hm1.out hm2.out (hb2.out (by simp))
  refine skip_ (w1 := ?_) (by rfl) rfl ?_ ?_
  rotate_left
  ·go_simp
   rfl
  clear hup
  refine hK.out _ _ ?_
  clear hK K
  refine done_ (done_of HT_.out (by kernel_rfl)) ?_
  clear hHeld
  have HJ2 := Aside0.mk (HJW.out.put _ (cl + 1) (hm2.out.push o cl))
  have HK2 := Aside0.mk (HK.out.trans (⟨rfl, rfl, rfl, by simp, fun k _ hk => World.putObj_heap_other hk⟩ : Kb W.heap.size mb w6 (w6.putObj mb (.map (es.push { key := offV o, val := .bool (canF lots samples spread labs o), born := cl }) (cl + 1)))))
  go_wp2
  go_ret
  exact ⟨rfl, HJ2.out, HK2.out⟩
 ·go_wp2
  go_ret
  exact ⟨by rw [hb1.out (by simp)]; rfl, HJW.out, HK.out⟩
end Go.Proofs.Ytcpbhklaffgokaa.Q
namespace Go.Proofs.Ytcpbhklaffgokaa.Q
open Go.RowKit Go.Proofs.YtcpbhklaffgokaaW.PrintWords Go.Proofs.YtcpbhklaffgokaaW.PrintLast Go.Proofs.YtcpbhklaffgokaaW.PrintMore
set_option linter.unusedVariables false
set_option linter.unusedSimpArgs false
theorem roundOk_of_check {lots : List S46} {samples : List Int} {spread : Int} {labs : List S75} (h : checkRound lots samples spread labs = 0) : RoundOk lots samples spread labs := by
 unfold checkRound at h
 by_cases h1 : 4 < lots.length ∨ 8 < samples.length ∨ 6 < labs.length
 ·rw [if_pos h1] at h; cases h
 rw [if_neg h1] at h
 by_cases h2 : lots.length = 0 ∨ (lots.all fun x => lotB x.f0 x.f1) = false ∨ (samples.all (sampB lots.length)) = false ∨ withinB spread 0 100 = false ∨ (labs.all (labB samples.length)) = false
 ·rw [if_pos h2] at h; cases h
 simp only [not_or, Bool.not_eq_false] at h1 h2
 obtain ⟨a1, a2, a3⟩ := h1
 obtain ⟨b1, b2, b3, b4, b5⟩ := h2
 rw [List.all_eq_true] at b2 b3 b5
 simp only [withinB, Bool.and_eq_true, decide_eq_true_eq] at b4
 refine ⟨by omega, by omega, by omega, by omega, ?_, ?_, b4.1, b4.2, ?_⟩
 ·intro x hx
  have := b2 x hx
  simp only [lotB, Bool.and_eq_true, decide_eq_true_eq] at this
  exact this
 ·intro x hx
  have := b3 x hx
  simp only [sampB, withinB, Bool.and_eq_true, decide_eq_true_eq] at this
  omega
 ·intro x hx
  have := b5 x hx
  simp only [labB, withinB, Bool.and_eq_true, decide_eq_true_eq, beq_iff_eq, List.all_eq_true] at this
  exact ⟨this.1.1, this.1.2, this.2.1, this.2.2⟩
set_option maxHeartbeats 2000000 in
theorem judge_bad (A0 : Option Addr) (c0 : Nat) (lots : List S46) (A1 : Option Addr) (c1 : Nat) (samples : List Int) (spread : Int) (A3 : Option Addr) (c3 : Nat) (labs : List S75) (w : World)
  (hr0 : Kd.C k46 w A0 lots.length lots) (hr1 : (Kd.int .i64).C w A1 samples.length samples) (hr3 : Kd.C k75 w A3 labs.length labs) (hc : checkRound lots samples spread labs ≠ 0) :
  Calls Try.prog 57 #[.agg #[.slice A0 lots.length c0, .slice A1 samples.length c1, .int .i64 spread, .slice A3 labs.length c3]] w fun e w' => e = .returned (.tuple #[.pointer none, .int .i64 (checkRound lots samples spread labs)]) ∧ Below w.heap.size w w' := by
 have HC := Aside0.mk (check_any A0 c0 lots A1 c1 samples spread A3 c3 labs (w.alloc (.cells #[.slice A0 lots.length c0, .slice A1 samples.length c1, .int .i64 spread, .slice A3 labs.length c3] 34)) (Kd.C_alloc hr0 _) (Kd.C_alloc hr1 _) (Kd.C_alloc hr3 _))
 clear hr0 hr1 hr3
 generalize checkRound lots samples spread labs = c at hc HC ⊢
 have hne : (c != 0) = true := bne_iff_ne.2 hc
 clear hc
 go_enter Try.func57, Try.ntmps57
 go_wp2_with (go_at_call 19; refine Aside0.out ?_)
 refine ⟨?_⟩
 refine HC.out.mono ?_
 rintro e w1 ⟨rfl, hb⟩
 have HB := Aside0.mk (below_step (below_alloc (Below.refl _ _) _) hb)
 clear hb
 go_wp2
 go_ret2
 exact ⟨rfl, HB.out⟩
def JudgePost (w : World) (A0 : Option Addr) (c0 : Nat) (lots : List S46) (A1 : Option Addr) (c1 : Nat) (samples : List Int) (spread : Int) (A3 : Option Addr) (c3 : Nat) (labs : List S75) (e : Ending) (w' : World) : Prop :=
 ∃ jb mb : Nat, e = .returned (.tuple #[.pointer (some ⟨jb, 0, none⟩), .int .i64 0]) ∧ JW w jb mb A0 c0 lots A1 c1 samples spread A3 c3 labs w'
set_option maxHeartbeats 2000000 in
theorem judge_ok (A0 : Option Addr) (c0 : Nat) (lots : List S46) (A1 : Option Addr) (c1 : Nat) (samples : List Int) (spread : Int) (A3 : Option Addr) (c3 : Nat) (labs : List S75) (w : World)
  (hr0 : Kd.C k46 w A0 lots.length lots) (hr1 : (Kd.int .i64).C w A1 samples.length samples) (hr3 : Kd.C k75 w A3 labs.length labs) (hc : checkRound lots samples spread labs = 0) :
  Calls Try.prog 57 #[.agg #[.slice A0 lots.length c0, .slice A1 samples.length c1, .int .i64 spread, .slice A3 labs.length c3]] w (JudgePost w A0 c0 lots A1 c1 samples spread A3 c3 labs) := by
 have HC := check_any A0 c0 lots A1 c1 samples spread A3 c3 labs (w.alloc (.cells #[.slice A0 lots.length c0, .slice A1 samples.length c1, .int .i64 spread, .slice A3 labs.length c3] 34)) (Kd.C_alloc hr0 _) (Kd.C_alloc hr1 _) (Kd.C_alloc hr3 _)
 rw [hc] at HC
 replace HC := Aside0.mk HC
 have BX := Aside0.mk (blk_new w (.cells #[.slice A0 lots.length c0, .slice A1 samples.length c1, .int .i64 spread, .slice A3 labs.length c3] 34))
 have HR := Aside0.mk (And.intro hr0 (And.intro hr1 hr3))
 clear hr0 hr1 hr3 hc
 have hmm := @run_makeMap Try.prog
 go_enter Try.func57, Try.ntmps57
 go_wp2_with (go_at_call 19; refine Aside0.out ?_)
 refine ⟨?_⟩
 refine HC.out.mono ?_
 rintro e w1 ⟨rfl, hb⟩
 have HB := Aside0.mk (below_step (below_alloc (Below.refl _ _) _) hb)
 replace BX := Aside0.mk (blk_below BX.out hb)
 clear hb
 obtain ⟨k0, k1, k2, k3⟩ := cells4 BX.out
 go_wp2
 go_ret2
 refine ⟨w1.heap.size + 1, w1.heap.size, rfl, HR.out.1, HR.out.2.1, HR.out.2.2, below_alloc (below_alloc HB.out _) _, by have := HB.out.size; omega, HB.out.size, ?blk, ⟨#[], 0, ?m, by simp [MapOk]⟩⟩
 case blk => have h := blk_new (w1.alloc (.map #[] 0)) (.cells #[.slice A0 lots.length c0, .slice A1 samples.length c1, .int .i64 spread, .slice A3 labs.length c3, .map (some w1.heap.size)] 107); rw [World.size_alloc] at h; exact h
 case m => exact blk_alloc (blk_new w1 (.map #[] 0)) _
end Go.Proofs.Ytcpbhklaffgokaa.Q
namespace Go.Proofs.Ytcpbhklaffgokaa.Q
open Go.RowKit Go.Proofs.YtcpbhklaffgokaaW.PrintWords Go.Proofs.YtcpbhklaffgokaaW.PrintLast Go.Proofs.YtcpbhklaffgokaaW.PrintMore
set_option linter.unusedVariables false
set_option linter.unusedSimpArgs false
theorem put6 {W : World} {g : Nat} {a b c d e f : Value} {t : TypeId} (h : W.heap[g]? = some (.cells #[a, b, c, d, e, f] t (0, 0))) (u0 u1 u2 u3 u4 u5 : Value) :
  ((((((W.setCell ⟨g, 0, none⟩ u0).setCell ⟨g, 1, none⟩ u1).setCell ⟨g, 2, none⟩ u2).setCell ⟨g, 3, none⟩ u3).setCell ⟨g, 4, none⟩ u4).setCell ⟨g, 5, none⟩ u5).heap[g]? = some (.cells #[u0, u1, u2, u3, u4, u5] t (0, 0)) :=
 blk_put (blk_put (blk_put (blk_put (blk_put (blk_put h 0 u0 rfl) 1 u1 rfl) 2 u2 rfl) 3 u3 rfl) 4 u4 rfl) 5 u5 rfl
theorem below6 {w0 W : World} {g : Nat} (h : Below w0.heap.size w0 W) (hg : w0.heap.size ≤ g) (u0 u1 u2 u3 u4 u5 : Value) :
  Below w0.heap.size w0 ((((((W.setCell ⟨g, 0, none⟩ u0).setCell ⟨g, 1, none⟩ u1).setCell ⟨g, 2, none⟩ u2).setCell ⟨g, 3, none⟩ u3).setCell ⟨g, 4, none⟩ u4).setCell ⟨g, 5, none⟩ u5) :=
 below_set (below_set (below_set (below_set (below_set (below_set h hg) hg) hg) hg) hg) hg
def okAt (n : Nat) (l : List Int) (k : Int) : Bool := withinB (rd l k) 0 ((n : Int) - 1) && (decide (k ≤ 0) || decide (rd l (k - 1) < rd l k))
def risingK (n : Nat) (l : List Int) : Nat → Bool
 | 0 => true
 | k + 1 => risingK n l k && okAt n l k
def risingB (n : Nat) (l : List Int) : Bool := risingK n l l.length
def offOf (l : List Int) (j : Nat) : Bool := l.contains (j : Int)
theorem risingK_false (n : Nat) (l : List Int) (k : Nat) (h : okAt n l k = false) : ∀ m, k < m → risingK n l m = false := by
 intro m hm
 induction m with
 | zero => omega
 | succ m ih =>
  simp only [risingK]
  by_cases e : k = m
  ·subst e; rw [h, Bool.and_false]
  ·rw [ih (by omega), Bool.false_and]
theorem off_set (f : Nat → Bool) (n : Nat) (h : n < 6) : (#[.bool (f 0), .bool (f 1), .bool (f 2), .bool (f 3), .bool (f 4), .bool (f 5)] : Array Value).setIfInBounds n (.bool true) =
  #[.bool (f 0 || decide (0 = n)), .bool (f 1 || decide (1 = n)), .bool (f 2 || decide (2 = n)), .bool (f 3 || decide (3 = n)), .bool (f 4 || decide (4 = n)), .bool (f 5 || decide (5 = n))] := by
 match n, h with
 | 0, _ | 1, _ | 2, _ | 3, _ | 4, _ | 5, _ => simp
theorem offOf_snoc (l : List Int) (k : Int) (hk0 : 0 ≤ k) (hk : k < l.length) (h0 : 0 ≤ rd l k) (j : Nat) : offOf (l.take (k + 1).toNat) j = (offOf (l.take k.toNat) j || decide (j = (rd l k).toNat)) := by
 have h1 : k.toNat < l.length := by omega
 have h2 : (k + 1).toNat = k.toNat + 1 := by omega
 have h3 : l[k.toNat] = rd l k := by simp [rd, List.getD_eq_getElem?_getD, List.getElem?_eq_getElem h1]
 unfold offOf
 rw [h2, List.take_succ_eq_append_getElem h1, List.contains_append, h3]
 congr 1
 rw [Bool.eq_iff_iff]
 simp
 omega
def AskedPost (w : World) (A0 : Option Addr) (c0 : Nat) (lots : List S46) (A1 : Option Addr) (c1 : Nat) (samples : List Int) (spread : Int) (A3 : Option Addr) (c3 : Nat) (labs : List S75) (l : List Int) (e : Ending) (w' : World) : Prop :=
 ∃ jb mb : Nat, e = .returned (.tuple #[.pointer (some ⟨jb, 0, none⟩), offV (offOf l), .int .i64 0]) ∧ JW w jb mb A0 c0 lots A1 c1 samples spread A3 c3 labs w'
def AskedErr (w : World) (c : Int) (e : Ending) (w' : World) : Prop := e = .returned (.tuple #[.pointer none, .agg #[.bool false, .bool false, .bool false, .bool false, .bool false, .bool false], .int .i64 c]) ∧ Below w.heap.size w w'
def Asked (w : World) (A0 : Option Addr) (c0 : Nat) (lots : List S46) (A1 : Option Addr) (c1 : Nat) (samples : List Int) (spread : Int) (A3 : Option Addr) (c3 : Nat) (labs : List S75) (l : List Int) (e : Ending) (w' : World) : Prop :=
 if risingB labs.length l = true then AskedPost w A0 c0 lots A1 c1 samples spread A3 c3 labs l e w' else AskedErr w 2 e w'
set_option maxHeartbeats 4000000 in
set_option maxRecDepth 100000 in
theorem asked_bad (A0 : Option Addr) (c0 : Nat) (lots : List S46) (A1 : Option Addr) (c1 : Nat) (samples : List Int) (spread : Int) (A3 : Option Addr) (c3 : Nat) (labs : List S75) (B : Option Addr) (m cB : Nat) (w : World) (hr0 : Kd.C k46 w A0 lots.length lots) (hr1 : (Kd.int .i64).C w A1 samples.length samples) (hr3 : Kd.C k75 w A3 labs.length labs) (hc : checkRound lots samples spread labs ≠ 0) :
  Calls Try.prog 51 #[.agg #[.slice A0 lots.length c0, .slice A1 samples.length c1, .int .i64 spread, .slice A3 labs.length c3], .slice B m cB] w (AskedErr w (checkRound lots samples spread labs)) := by
 have HC := Aside0.mk (judge_bad A0 c0 lots A1 c1 samples spread A3 c3 labs ((w.alloc (.cells #[.slice A0 lots.length c0, .slice A1 samples.length c1, .int .i64 spread, .slice A3 labs.length c3] 34)).alloc (.cells #[.bool false, .bool false, .bool false, .bool false, .bool false, .bool false] 85)) (Kd.C_alloc (Kd.C_alloc hr0 _) _) (Kd.C_alloc (Kd.C_alloc hr1 _) _) (Kd.C_alloc (Kd.C_alloc hr3 _) _) hc)
 have B5 := blk_new (w.alloc (.cells #[.slice A0 lots.length c0, .slice A1 samples.length c1, .int .i64 spread, .slice A3 labs.length c3] 34)) (.cells #[.bool false, .bool false, .bool false, .bool false, .bool false, .bool false] 85)
 rw [World.size_alloc] at B5
 replace B5 := Aside0.mk B5
 clear hr0 hr1 hr3
 generalize checkRound lots samples spread labs = c at hc HC ⊢
 have hne : (c != 0) = true := bne_iff_ne.2 hc
 clear hc
 go_enter Try.func51, Try.ntmps51
 go_wp2_with (go_at_call 57; refine Aside0.out ?_)
 refine ⟨?_⟩
 refine HC.out.mono ?_
 rintro e w1 ⟨rfl, hb⟩
 have HB := Aside0.mk (below_step (below_alloc (below_alloc (Below.refl _ _) _) _) hb)
 replace B5 := Aside0.mk (blk_below B5.out hb)
 clear hb
 obtain ⟨q0, q1, q2, q3, q4, q5⟩ := cells6 B5.out
 have z0 := blk_frozen B5.out 0
 have z1 := blk_frozen B5.out 1
 have z2 := blk_frozen B5.out 2
 have z3 := blk_frozen B5.out 3
 have z4 := blk_frozen B5.out 4
 have z5 := blk_frozen B5.out 5
 go_wp2
 refine bodyPost_ret (results_list (rs := [.tmp 4, .cell 5 85, .tmp 6]) rfl (by simp) (.tmp (.cell (w.heap.size + 1) 85 _ (0, 0) _ rfl (put6 B5.out _ _ _ _ _ _) rfl rfl rfl (.tmp .nil)))) rfl ?_
 exact ⟨rfl, below6 HB.out (by omega) _ _ _ _ _ _⟩
def askedT.T12 : Bool × List (List Nat × List Nat) := (true, [([], []), ([], []), ([0, 0], [0]), ([1, 2, 0, 1, 2], [1]), ([3, 0, 1, 2, 3], [])])
def askedT.B12 : List Nat := [0, 0, 1, 7, 15]
theorem askedT.tab12 : rtab .any (opsOf Try.f51 12) = askedT.T12 := by kernel_rfl
theorem askedT.bits12 : waitsOk askedT.T12.2 askedT.B12 = true := by kernel_rfl
theorem JW.set1 {w0 W : World} {jb mb g : Nat} {A0 : Option Addr} {c0 : Nat} {lots : List S46} {A1 : Option Addr} {c1 : Nat} {samples : List Int} {spread : Int} {A3 : Option Addr} {c3 : Nat} {labs : List S75} (h : JW w0 jb mb A0 c0 lots A1 c1 samples spread A3 c3 labs W) (hg : w0.heap.size ≤ g) (hj : jb < g) (hm : mb < g) (i : Nat) (u : Value) : JW w0 jb mb A0 c0 lots A1 c1 samples spread A3 c3 labs (W.setCell ⟨g, i, none⟩ u) := by
 obtain ⟨es, c, h1, h2⟩ := h.map
 exact ⟨h.r0, h.r1, h.r3, below_set h.hb hg, h.gj, h.gm, (Below.heap_setCell W _ _ _ (by simp; omega)).trans h.blk, es, c, (Below.heap_setCell W _ _ _ (by simp; omega)).trans h1, h2⟩
theorem JW.off {w0 w W : World} {jb mb g : Nat} {A0 : Option Addr} {c0 : Nat} {lots : List S46} {A1 : Option Addr} {c1 : Nat} {samples : List Int} {spread : Int} {A3 : Option Addr} {c3 : Nat} {labs : List S75} (h : JW w0 jb mb A0 c0 lots A1 c1 samples spread A3 c3 labs W) (hr0 : Kd.C k46 w A0 lots.length lots) (hr1 : (Kd.int .i64).C w A1 samples.length samples) (hr3 : Kd.C k75 w A3 labs.length labs) (hb0 : Below w.heap.size w w0) (hg : w.heap.size ≤ g) (hg2 : g < w0.heap.size) (u0 u1 u2 u3 u4 u5 : Value) :
  JW w jb mb A0 c0 lots A1 c1 samples spread A3 c3 labs ((((((W.setCell ⟨g, 0, none⟩ u0).setCell ⟨g, 1, none⟩ u1).setCell ⟨g, 2, none⟩ u2).setCell ⟨g, 3, none⟩ u3).setCell ⟨g, 4, none⟩ u4).setCell ⟨g, 5, none⟩ u5) := by
 obtain ⟨es, c, h1, h2⟩ := h.map
 have hs := hb0.size
 have far : ∀ (b : Nat) (ob : Obj), w0.heap.size ≤ b → W.heap[b]? = some ob → ((((((W.setCell ⟨g, 0, none⟩ u0).setCell ⟨g, 1, none⟩ u1).setCell ⟨g, 2, none⟩ u2).setCell ⟨g, 3, none⟩ u3).setCell ⟨g, 4, none⟩ u4).setCell ⟨g, 5, none⟩ u5).heap[b]? = some ob := by
  intro b ob hb hw
  have hne : b ≠ g := by omega
  rw [Below.heap_setCell _ _ _ _ hne, Below.heap_setCell _ _ _ _ hne, Below.heap_setCell _ _ _ _ hne, Below.heap_setCell _ _ _ _ hne, Below.heap_setCell _ _ _ _ hne, Below.heap_setCell _ _ _ _ hne, hw]
 exact ⟨hr0, hr1, hr3, below6 (below_step hb0 h.hb) hg _ _ _ _ _ _, by have := h.gj; omega, by have := h.gm; omega, far _ _ h.gj h.blk, es, c, far _ _ h.gm h1, h2⟩
set_option maxHeartbeats 8000000 in
set_option maxRecDepth 100000 in
theorem asked_ok (A0 : Option Addr) (c0 : Nat) (lots : List S46) (A1 : Option Addr) (c1 : Nat) (samples : List Int) (spread : Int) (A3 : Option Addr) (c3 : Nat) (labs : List S75) (B : Option Addr) (cB : Nat) (l : List Int) (w : World) (hr0 : Kd.C k46 w A0 lots.length lots) (hr1 : (Kd.int .i64).C w A1 samples.length samples) (hr3 : Kd.C k75 w A3 labs.length labs) (hrB : (Kd.int .i64).C w B l.length l) (hl : l.length < 17592186044416) (hc : checkRound lots samples spread labs = 0) :
  Calls Try.prog 51 #[.agg #[.slice A0 lots.length c0, .slice A1 samples.length c1, .int .i64 spread, .slice A3 labs.length c3], .slice B l.length cB] w (Asked w A0 c0 lots A1 c1 samples spread A3 c3 labs l) := by
 have HC := Aside0.mk (judge_ok A0 c0 lots A1 c1 samples spread A3 c3 labs ((w.alloc (.cells #[.slice A0 lots.length c0, .slice A1 samples.length c1, .int .i64 spread, .slice A3 labs.length c3] 34)).alloc (.cells #[.bool false, .bool false, .bool false, .bool false, .bool false, .bool false] 85)) (Kd.C_alloc (Kd.C_alloc hr0 _) _) (Kd.C_alloc (Kd.C_alloc hr1 _) _) (Kd.C_alloc (Kd.C_alloc hr3 _) _) hc)
 have b6 := (roundOk_of_check hc).b6
 have HR := Aside0.mk (And.intro hr0 (And.intro hr1 (And.intro hr3 hrB)))
 have HB0 := Aside0.mk (below_alloc (below_alloc (Below.refl _ w) (.cells #[.slice A0 lots.length c0, .slice A1 samples.length c1, .int .i64 spread, .slice A3 labs.length c3] 34)) (.cells #[.bool false, .bool false, .bool false, .bool false, .bool false, .bool false] 85))
 have B5 := blk_new (w.alloc (.cells #[.slice A0 lots.length c0, .slice A1 samples.length c1, .int .i64 spread, .slice A3 labs.length c3] 34)) (.cells #[.bool false, .bool false, .bool false, .bool false, .bool false, .bool false] 85)
 rw [World.size_alloc] at B5
 replace B5 := Aside0.mk B5
 have B2 := Aside0.mk (blk_alloc (blk_new w (.cells #[.slice A0 lots.length c0, .slice A1 samples.length c1, .int .i64 spread, .slice A3 labs.length c3] 34)) (.cells #[.bool false, .bool false, .bool false, .bool false, .bool false, .bool false] 85))
 have hsz : ((w.alloc (.cells #[.slice A0 lots.length c0, .slice A1 samples.length c1, .int .i64 spread, .slice A3 labs.length c3] 34)).alloc (.cells #[.bool false, .bool false, .bool false, .bool false, .bool false, .bool false] 85)).heap.size = w.heap.size + 2 := by simp
 clear hr0 hr1 hr3 hrB hc
 go_enter Try.func51, Try.ntmps51
 go_wp2_with (go_at_call 57; refine Aside0.out ?_)
 refine ⟨?_⟩
 refine HC.out.mono ?_
 clear HC
 generalize ((w.alloc (.cells #[.slice A0 lots.length c0, .slice A1 samples.length c1, .int .i64 spread, .slice A3 labs.length c3] 34)).alloc (.cells #[.bool false, .bool false, .bool false, .bool false, .bool false, .bool false] 85)) = w0 at hsz HB0 B5 B2 ⊢
 rintro e w1 ⟨jb, mb, rfl, hj⟩
 have B9 := Aside0.mk (blk_new w1 (.cells #[.bool false, .bool false, .bool false, .bool false, .bool false, .bool false] 85))
 have HJW := Aside0.mk (hj.step (below_alloc (Below.refl _ _) (.cells #[.bool false, .bool false, .bool false, .bool false, .bool false, .bool false] 85)))
 replace B5 := Aside0.mk (blk_alloc (blk_below B5.out hj.hb) (.cells #[.bool false, .bool false, .bool false, .bool false, .bool false, .bool false] 85))
 replace B2 := Aside0.mk (blk_alloc (blk_below B2.out hj.hb) (.cells #[.bool false, .bool false, .bool false, .bool false, .bool false, .bool false] 85))
 have hg9 : w0.heap.size ≤ w1.heap.size := hj.hb.size
 have hjg : jb < w1.heap.size := blk_lt hj.blk
 have hmg : mb < w1.heap.size := by obtain ⟨es, c, h, _⟩ := hj.map; exact blk_lt h
 clear hj
 go_wp2_with fail
 generalize w1.alloc (.cells #[.bool false, .bool false, .bool false, .bool false, .bool false, .bool false] 85) = w2 at B9 HJW B5 B2 ⊢
 generalize w1.heap.size = g9 at hg9 hjg hmg B9 ⊢
 go_loopw [23] (fun q wr => ∃ k : Int, 0 ≤ k ∧ k ≤ l.length ∧ q = .int .i64 k ∧ Aside0 (risingK labs.length l k.toNat = true) ∧ Aside0 (JW w0 jb mb A0 c0 lots A1 c1 samples spread A3 c3 labs wr) ∧ Aside0 (wr.heap[g9]? = some (.cells #[.bool (offOf (l.take k.toNat) 0), .bool (offOf (l.take k.toNat) 1), .bool (offOf (l.take k.toNat) 2), .bool (offOf (l.take k.toNat) 3), .bool (offOf (l.take k.toNat) 4), .bool (offOf (l.take k.toNat) 5)] 85 (0, 0))) ∧ Aside0 (wr.heap[w.heap.size]? = some (.cells #[.slice A0 lots.length c0, .slice A1 samples.length c1, .int .i64 spread, .slice A3 labs.length c3] 34 (0, 0))) ∧ Aside0 (wr.heap[w.heap.size + 1]? = some (.cells #[.bool false, .bool false, .bool false, .bool false, .bool false, .bool false] 85 (0, 0)))) (fun q _ => l.length - (intOf q).toNat)
 case atStart => exact ⟨0, by omega, by omega, rfl, ⟨rfl⟩, HJW, B9, B2, B5⟩
 case round =>
  obtain ⟨k, hk0, hk, rfl, HK, HJW, B9, B2, B5⟩ := hrel
  obtain ⟨p0, p1, p2, p3⟩ := cells4 B2.out
  by_cases hlt : k < l.length
  ·have hgB := Kd.C_below HR.out.2.2.2 (below_step HB0.out HJW.out.hb)
   obtain ⟨ad, hA, hy0⟩ := Kd.at_int hgB k hk0 hlt
   obtain rfl := hA
   have HY1 := Aside0.mk (fun (h : 0 < k) => Kd.at_int hgB (k - 1) (by omega) (by omega))
   clear hgB
   have HE := Aside0.mk (fun (h : okAt labs.length l k = false) => risingK_false labs.length l k.toNat (by rw [Int.toNat_of_nonneg hk0]; exact h) l.length (by omega))
   obtain ⟨q0, q1, q2, q3, q4, q5⟩ := cells6 B5.out
   have z0 := blk_frozen B5.out 0
   have z1 := blk_frozen B5.out 1
   have z2 := blk_frozen B5.out 2
   have z3 := blk_frozen B5.out 3
   have z4 := blk_frozen B5.out 4
   have z5 := blk_frozen B5.out 5
   have HEx : okAt labs.length l k = false → Asked w A0 c0 lots A1 c1 samples spread A3 c3 labs l (.returned (.tuple #[.pointer none, .agg #[.bool false, .bool false, .bool false, .bool false, .bool false, .bool false], .int .i64 2])) (((((((wr.setCell ⟨w.heap.size + 1, 0, none⟩ (.bool false)).setCell ⟨w.heap.size + 1, 1, none⟩ (.bool false)).setCell ⟨w.heap.size + 1, 2, none⟩ (.bool false)).setCell ⟨w.heap.size + 1, 3, none⟩ (.bool false)).setCell ⟨w.heap.size + 1, 4, none⟩ (.bool false)).setCell ⟨w.heap.size + 1, 5, none⟩ (.bool false))) := fun h => by
    unfold Asked
    rw [if_neg (by rw [show risingB labs.length l = false from HE.out h]; exact Bool.false_ne_true)]
    exact ⟨rfl, below6 (below_step HB0.out HJW.out.hb) (by omega) _ _ _ _ _ _⟩
   replace HEx := Aside0.mk HEx
   clear HE
   have HW := Aside0.mk (within_any (rd l k) 0 ((labs.length : Int) - 1))
   cases hW : withinB (rd l k) 0 ((labs.length : Int) - 1)
   ·simp only [hW] at HW
    have hf : okAt labs.length l k = false := by unfold okAt; rw [hW]; rfl
    replace HEx := Aside0.mk (HEx.out hf)
    clear hW hf
    by_cases h0 : 0 < k
    ·obtain ⟨ad2, hA2, hy1⟩ := HY1.out h0
     injection hA2 with hA2
     subst hA2
     rw [show (k - 1).toNat = k.toNat - 1 by omega] at hy1
     go_wp2_with (go_at_call 44; (with_reducible refine (HW.out _).mono ?_); rintro e w' ⟨rfl, rfl⟩)
     (try simp only [Exit.inBlock, Exit.then])
     refine bodyPost_ret (results_list (rs := [.tmp 4, .cell 5 85, .tmp 6]) rfl (by simp) (.tmp (.cell (w.heap.size + 1) 85 _ (0, 0) _ rfl (put6 B5.out _ _ _ _ _ _) rfl rfl rfl (.tmp .nil)))) rfl ?_
     exact HEx.out
    ·go_wp2_with (go_at_call 44; (with_reducible refine (HW.out _).mono ?_); rintro e w' ⟨rfl, rfl⟩)
     (try simp only [Exit.inBlock, Exit.then])
     refine bodyPost_ret (results_list (rs := [.tmp 4, .cell 5 85, .tmp 6]) rfl (by simp) (.tmp (.cell (w.heap.size + 1) 85 _ (0, 0) _ rfl (put6 B5.out _ _ _ _ _ _) rfl rfl rfl (.tmp .nil)))) rfl ?_
     exact HEx.out
   ·simp only [hW] at HW
    have hx : 0 ≤ rd l k ∧ rd l k ≤ (labs.length : Int) - 1 := by simpa [withinB] using hW
    obtain ⟨hx0, hx1⟩ := hx
    have st0 := (blk_cell B9.out (rd l k).toNat).trans (off_at (offOf (l.take k.toNat)) (rd l k).toNat (by omega))
    have st1 := blk_frozen B9.out (rd l k).toNat
    have HN := Aside0.mk (fun (h : okAt labs.length l k = true) => (by rw [show (k + 1).toNat = k.toNat + 1 by omega]; simp only [risingK, HK.out, Int.toNat_of_nonneg hk0, h]; rfl : risingK labs.length l (k + 1).toNat = true))
    have HPut := Aside0.mk (blk_put B9.out (rd l k).toNat (.bool true) (off_set (offOf (l.take k.toNat)) (rd l k).toNat (by omega)))
    simp only [← offOf_snoc l k hk0 hlt hx0] at HPut
    by_cases h0 : 0 < k
    ·obtain ⟨ad2, hA2, hy1⟩ := HY1.out h0
     injection hA2 with hA2
     subst hA2
     rw [show (k - 1).toNat = k.toNat - 1 by omega] at hy1
     by_cases h1 : rd l (k - 1) < rd l k
     ·have hf : okAt labs.length l k = true := by unfold okAt; rw [hW]; simp [h1]
      replace HN := Aside0.mk (HN.out hf)
      clear hW hf
      go_wp2_with (go_at_call 44; (with_reducible refine (HW.out _).mono ?_); rintro e w' ⟨rfl, rfl⟩)
      exact ⟨⟨k + 1, by omega, by omega, rfl, HN, ⟨HJW.out.set1 hg9 hjg hmg _ _⟩, ⟨HPut.out⟩, ⟨blk_far B2.out (by simp; omega) _⟩, ⟨blk_far B5.out (by simp; omega) _⟩⟩, by simp only [intOf]; omega⟩
     ·have hf : okAt labs.length l k = false := by unfold okAt; rw [hW]; simp; omega
      replace HEx := Aside0.mk (HEx.out hf)
      clear hW hf
      go_wp2_with (go_at_call 44; (with_reducible refine (HW.out _).mono ?_); rintro e w' ⟨rfl, rfl⟩)
      (try simp only [Exit.inBlock, Exit.then])
      refine bodyPost_ret (results_list (rs := [.tmp 4, .cell 5 85, .tmp 6]) rfl (by simp) (.tmp (.cell (w.heap.size + 1) 85 _ (0, 0) _ rfl (put6 B5.out _ _ _ _ _ _) rfl rfl rfl (.tmp .nil)))) rfl ?_
      exact HEx.out
    ·have hf : okAt labs.length l k = true := by unfold okAt; rw [hW]; simp; left; omega
     replace HN := Aside0.mk (HN.out hf)
     clear hW hf
     go_wp2_with (go_at_call 44; (with_reducible refine (HW.out _).mono ?_); rintro e w' ⟨rfl, rfl⟩)
     exact ⟨⟨k + 1, by omega, by omega, rfl, HN, ⟨HJW.out.set1 hg9 hjg hmg _ _⟩, ⟨HPut.out⟩, ⟨blk_far B2.out (by simp; omega) _⟩, ⟨blk_far B5.out (by simp; omega) _⟩⟩, by simp only [intOf]; omega⟩
  ·obtain rfl : k = l.length := by omega
   have HF := Aside0.mk (show risingB labs.length l = true from by unfold risingB; exact HK.out)
   rw [Int.toNat_natCast, List.take_length] at B9
   clear hlt hk0 hk HK
   go_wp2_with fail
   refine start_ (n := 5) (S := fun w' => w'.cell? ⟨g9, 0, none⟩ = some (.bool (offOf l 0)) ∧ w'.cell? ⟨g9, 1, none⟩ = some (.bool (offOf l 1)) ∧ w'.cell? ⟨g9, 2, none⟩ = some (.bool (offOf l 2)) ∧ w'.cell? ⟨g9, 3, none⟩ = some (.bool (offOf l 3)) ∧ w'.cell? ⟨g9, 4, none⟩ = some (.bool (offOf l 4)) ∧ w'.cell? ⟨g9, 5, none⟩ = some (.bool (offOf l 5))) (ds := [3]) #[false, false, false, false, false] (by kernel_rfl) rfl rfl ⟨(cells6 (blk_drew B9.out)).1, (cells6 (blk_drew B9.out)).2.1, (cells6 (blk_drew B9.out)).2.2.1, (cells6 (blk_drew B9.out)).2.2.2.1, (cells6 (blk_drew B9.out)).2.2.2.2.1, (cells6 (blk_drew B9.out)).2.2.2.2.2⟩ (fun hHeld => ?_)
   refine with_tabW askedT.tab12 askedT.bits12 (fun HT_ HW_ => ?_)
   replace B9 := Aside0.mk (blk_drew B9.out)
   replace B5 := Aside0.mk (blk_drew B5.out)
   replace HJW := Aside0.mk (HJW.out.step (below_drew1 (Below.refl _ _)))
   generalize wr.drew = ws at B9 B5 HJW hHeld ⊢
   obtain ⟨q0, q1, q2, q3, q4, q5⟩ := cells6 B5.out
   have z0 := blk_frozen B5.out 0
   have z1 := blk_frozen B5.out 1
   have z2 := blk_frozen B5.out 2
   have z3 := blk_frozen B5.out 3
   have z4 := blk_frozen B5.out 4
   have z5 := blk_frozen B5.out 5
   refine pure_ (i := 0) (N := some 52) (v := ?_) (a' := ?_) #[true, false, false, false, false] rfl rfl (any_of HT_.out (by kernel_rfl)) (fun _ _ _ h => h) (Or.inl ⟨by rfl, ?_⟩) ?_ ?_
   rotate_left
   ·intro w'
    go_simp
    with_reducible rfl
   rotate_left
   ·simp only [Act.put, List.setIfInBounds_toArray, List.set_cons_zero, List.set_cons_succ, i64_w, i32_w]
    rfl
   refine pure_ (i := 2) (N := some 4) (v := ?_) (a' := ?_) #[true, false, true, false, false] rfl rfl (any_of HT_.out (by kernel_rfl)) (fun _ _ _ h => h) (Or.inl ⟨by rfl, ?_⟩) ?_ ?_
   rotate_left
   ·intro w'
    go_simp
    with_reducible rfl
   rotate_left
   ·simp only [Act.put, List.setIfInBounds_toArray, List.set_cons_zero, List.set_cons_succ, i64_w, i32_w]
    rfl
   refine take_ (i := 1) (N := some 53) (v := ?_) (a' := ?_) #[true, true, true, false, false] rfl rfl (take_ofW HT_.out HW_.out (by kernel_rfl)) (fun _ _ _ h => h) (Or.inl ⟨by rfl, ?_⟩) hHeld ?_ ?_
   rotate_left
   ·rintro w' ⟨s0, s1, s2, s3, s4, s5⟩
    go_simp
    with_reducible rfl
   rotate_left
   ·simp only [Act.put, List.setIfInBounds_toArray, List.set_cons_zero, List.set_cons_succ, i64_w, i32_w]
    rfl
   refine last_ (i := 3) (N := none) #[true, true, true, true, false] rfl rfl (one_of HT_.out (by kernel_rfl)) (by decide) (fun K hK => ?_)
   refine skip_ (w1 := ?_) (by rfl) rfl ?_ ?_
   rotate_left
   ·go_simp
    rfl
   refine hK.out _ _ ?_
   clear hK K
   refine pure_ (i := 4) (N := some 6) (v := ?_) (a' := ?_) #[true, true, true, true, true] rfl rfl (any_of HT_.out (by kernel_rfl)) (fun _ _ _ h => h) (Or.inl ⟨by rfl, ?_⟩) ?_ ?_
   rotate_left
   ·intro w'
    go_simp
    with_reducible rfl
   rotate_left
   ·simp only [Act.put, List.setIfInBounds_toArray, List.set_cons_zero, List.set_cons_succ, i64_w, i32_w]
    rfl
   refine done_ (done_of HT_.out (by kernel_rfl)) ?_
   clear hHeld
   have HEx : Asked w A0 c0 lots A1 c1 samples spread A3 c3 labs l (.returned (.tuple #[.pointer (some ⟨jb, 0, none⟩), offV (offOf l), .int .i64 0])) (((((((ws.setCell ⟨w.heap.size + 1, 0, none⟩ (.bool (offOf l 0))).setCell ⟨w.heap.size + 1, 1, none⟩ (.bool (offOf l 1))).setCell ⟨w.heap.size + 1, 2, none⟩ (.bool (offOf l 2))).setCell ⟨w.heap.size + 1, 3, none⟩ (.bool (offOf l 3))).setCell ⟨w.heap.size + 1, 4, none⟩ (.bool (offOf l 4))).setCell ⟨w.heap.size + 1, 5, none⟩ (.bool (offOf l 5)))) := by
    unfold Asked
    rw [if_pos HF.out]
    exact ⟨jb, mb, rfl, HJW.out.off HR.out.1 HR.out.2.1 HR.out.2.2.1 HB0.out (by omega) (by omega) _ _ _ _ _ _⟩
   replace HEx := Aside0.mk HEx
   go_wp2
   (try simp only [Exit.inBlock, Exit.then])
   refine bodyPost_ret (results_list (rs := [.tmp 4, .cell 5 85, .tmp 6]) rfl (by simp) (.tmp (.cell (w.heap.size + 1) 85 _ (0, 0) _ rfl (put6 B5.out _ _ _ _ _ _) rfl rfl rfl (.tmp .nil)))) rfl ?_
   exact HEx.out
end Go.Proofs.Ytcpbhklaffgokaa.Q
namespace Go.Proofs.Ytcpbhklaffgokaa.Q
open Go.RowKit Go.Proofs.YtcpbhklaffgokaaW.PrintWords Go.Proofs.YtcpbhklaffgokaaW.PrintLast Go.Proofs.YtcpbhklaffgokaaW.PrintMore
set_option linter.unusedVariables false
set_option linter.unusedSimpArgs false
def askedE (lots : List S46) (samples : List Int) (spread : Int) (labs : List S75) (l : List Int) : Int :=
 if checkRound lots samples spread labs ≠ 0 then checkRound lots samples spread labs else if risingB labs.length l = true then 0 else 2
theorem asked_err (A0 : Option Addr) (c0 : Nat) (lots : List S46) (A1 : Option Addr) (c1 : Nat) (samples : List Int) (spread : Int) (A3 : Option Addr) (c3 : Nat) (labs : List S75) (B : Option Addr) (cB : Nat) (l : List Int) (w : World) (hr0 : Kd.C k46 w A0 lots.length lots) (hr1 : (Kd.int .i64).C w A1 samples.length samples) (hr3 : Kd.C k75 w A3 labs.length labs) (hrB : (Kd.int .i64).C w B l.length l) (hl : l.length < 17592186044416) (hc : askedE lots samples spread labs l ≠ 0) :
  Calls Try.prog 51 #[.agg #[.slice A0 lots.length c0, .slice A1 samples.length c1, .int .i64 spread, .slice A3 labs.length c3], .slice B l.length cB] w (AskedErr w (askedE lots samples spread labs l)) := by
 by_cases h0 : checkRound lots samples spread labs = 0
 ·have h := asked_ok A0 c0 lots A1 c1 samples spread A3 c3 labs B cB l w hr0 hr1 hr3 hrB hl h0
  unfold askedE at hc ⊢
  rw [if_neg (by simp [h0])] at hc ⊢
  by_cases h1 : risingB labs.length l = true
  ·rw [if_pos h1] at hc; exact absurd rfl hc
  ·rw [if_neg h1]
   refine h.mono ?_
   intro e w' h2
   unfold Asked at h2
   rwa [if_neg h1] at h2
 ·have h := asked_bad A0 c0 lots A1 c1 samples spread A3 c3 labs B l.length cB w hr0 hr1 hr3 h0
  unfold askedE
  rw [if_pos h0]
  exact h
theorem asked_fine (A0 : Option Addr) (c0 : Nat) (lots : List S46) (A1 : Option Addr) (c1 : Nat) (samples : List Int) (spread : Int) (A3 : Option Addr) (c3 : Nat) (labs : List S75) (B : Option Addr) (cB : Nat) (l : List Int) (w : World) (hr0 : Kd.C k46 w A0 lots.length lots) (hr1 : (Kd.int .i64).C w A1 samples.length samples) (hr3 : Kd.C k75 w A3 labs.length labs) (hrB : (Kd.int .i64).C w B l.length l) (hl : l.length < 17592186044416) (hc : askedE lots samples spread labs l = 0) :
  Calls Try.prog 51 #[.agg #[.slice A0 lots.length c0, .slice A1 samples.length c1, .int .i64 spread, .slice A3 labs.length c3], .slice B l.length cB] w (AskedPost w A0 c0 lots A1 c1 samples spread A3 c3 labs l) ∧ RoundOk lots samples spread labs := by
 have h0 : checkRound lots samples spread labs = 0 := by
  unfold askedE at hc
  by_cases h : checkRound lots samples spread labs = 0
  ·exact h
  ·rw [if_pos h] at hc; exact hc
 have h1 : risingB labs.length l = true := by
  unfold askedE at hc
  rw [if_neg (by simp [h0])] at hc
  by_cases h : risingB labs.length l = true
  ·exact h
  ·rw [if_neg h] at hc; cases hc
 refine ⟨(asked_ok A0 c0 lots A1 c1 samples spread A3 c3 labs B cB l w hr0 hr1 hr3 hrB hl h0).mono ?_, roundOk_of_check h0⟩
 intro e w' h2
 unfold Asked at h2
 rwa [if_pos h1] at h2
def explainsF (lots : List S46) (samples : List Int) (spread : Int) (labs : List S75) (l : List Int) : Bool × Int :=
 if askedE lots samples spread labs l = 0 then (canF lots samples spread labs (offOf l), 0) else (false, askedE lots samples spread labs l)
set_option maxHeartbeats 4000000 in
set_option maxRecDepth 100000 in
theorem explains_any (A0 : Option Addr) (c0 : Nat) (lots : List S46) (A1 : Option Addr) (c1 : Nat) (samples : List Int) (spread : Int) (A3 : Option Addr) (c3 : Nat) (labs : List S75) (B : Option Addr) (cB : Nat) (l : List Int) (w : World) (hr0 : Kd.C k46 w A0 lots.length lots) (hr1 : (Kd.int .i64).C w A1 samples.length samples) (hr3 : Kd.C k75 w A3 labs.length labs) (hrB : (Kd.int .i64).C w B l.length l) (hl : l.length < 17592186044416) :
  Calls Try.prog 21 #[.agg #[.slice A0 lots.length c0, .slice A1 samples.length c1, .int .i64 spread, .slice A3 labs.length c3], .slice B l.length cB] w fun e w' => e = .returned (.tuple #[.bool (explainsF lots samples spread labs l).1, .int .i64 (explainsF lots samples spread labs l).2]) ∧ Below w.heap.size w w' := by
 by_cases hc : askedE lots samples spread labs l = 0
 ·obtain ⟨H1, hok⟩ := asked_fine A0 c0 lots A1 c1 samples spread A3 c3 labs B cB l (w.alloc (.cells #[.slice A0 lots.length c0, .slice A1 samples.length c1, .int .i64 spread, .slice A3 labs.length c3] 34)) (Kd.C_alloc hr0 _) (Kd.C_alloc hr1 _) (Kd.C_alloc hr3 _) (Kd.C_alloc hrB _) hl hc
  have HX : explainsF lots samples spread labs l = (canF lots samples spread labs (offOf l), 0) := by unfold explainsF; rw [if_pos hc]
  rw [HX]
  have HC := Aside0.mk H1
  have HR := Aside0.mk (And.intro hr0 (And.intro hr1 hr3))
  have HB0 := Aside0.mk (below_alloc (Below.refl _ w) (.cells #[.slice A0 lots.length c0, .slice A1 samples.length c1, .int .i64 spread, .slice A3 labs.length c3] 34))
  replace hok := Aside0.mk hok
  clear H1 hr0 hr1 hr3 hrB hc HX
  go_enter Try.func21, Try.ntmps21
  go_wp2_with (go_at_call 51; refine Aside0.out ?_)
  refine ⟨?_⟩
  refine HC.out.mono ?_
  clear HC
  rintro e w1 ⟨jb, mb, rfl, hj⟩
  replace HJ := Aside0.mk hj
  clear hj
  go_wp2_with (go_at_call 52; refine Aside0.out ?_)
  refine ⟨?_⟩
  refine (explain_any _ jb mb A0 c0 lots A1 c1 samples spread A3 c3 labs (offOf l) _ (HJ.out.step (below_alloc (Below.refl _ _) _)) hok.out).mono ?_
  rintro e w2 ⟨rfl, hj2, _⟩
  replace HJ := Aside0.mk hj2
  clear hj2
  go_wp2
  go_ret2
  exact ⟨rfl, below_step HB0.out HJ.out.hb⟩
 ·have HC := Aside0.mk (asked_err A0 c0 lots A1 c1 samples spread A3 c3 labs B cB l (w.alloc (.cells #[.slice A0 lots.length c0, .slice A1 samples.length c1, .int .i64 spread, .slice A3 labs.length c3] 34)) (Kd.C_alloc hr0 _) (Kd.C_alloc hr1 _) (Kd.C_alloc hr3 _) (Kd.C_alloc hrB _) hl hc)
  have HX : explainsF lots samples spread labs l = (false, askedE lots samples spread labs l) := by unfold explainsF; rw [if_neg hc]
  rw [HX]
  have HB0 := Aside0.mk (below_alloc (Below.refl _ w) (.cells #[.slice A0 lots.length c0, .slice A1 samples.length c1, .int .i64 spread, .slice A3 labs.length c3] 34))
  clear hr0 hr1 hr3 hrB HX
  generalize askedE lots samples spread labs l = c at hc HC ⊢
  have hne : (c != 0) = true := bne_iff_ne.2 hc
  clear hc
  go_enter Try.func21, Try.ntmps21
  go_wp2_with (go_at_call 51; refine Aside0.out ?_)
  refine ⟨?_⟩
  refine HC.out.mono ?_
  clear HC
  rintro e w1 ⟨rfl, hb⟩
  replace HB0 := Aside0.mk (below_step HB0.out hb)
  clear hb
  go_wp2
  go_ret2
  exact ⟨rfl, below_alloc HB0.out _⟩
def spansT.T4 : Bool × List (List Nat × List Nat) := (true, [([], []), ([], []), ([], []), ([0, 1, 2, 2], [0, 1, 2]), ([3], [3]), ([4], [4]), ([4], [4]), ([5, 3, 0, 1, 2, 3, 4, 5], [5]), ([6, 7, 0, 1, 2, 3, 4, 5, 6, 7], [6])])
def spansT.B4 : List Nat := [0, 0, 0, 7, 15, 31, 31, 63, 255]
theorem spansT.tab4 : rtab .any (opsOf Try.f26 4) = spansT.T4 := by kernel_rfl
theorem spansT.bits4 : waitsOk spansT.T4.2 spansT.B4 = true := by kernel_rfl
def spansR (lots : List S46) (samples : List Int) (spread : Int) (labs : List S75) (l : List Int) : List S46 × Int :=
 if askedE lots samples spread labs l = 0 then (if (spansF lots samples spread labs (offOf l) (-1) 0).2 = true then ((spansF lots samples spread labs (offOf l) (-1) 0).1, 0) else ([], 9)) else ([], askedE lots samples spread labs l)
set_option maxHeartbeats 4000000 in
set_option maxRecDepth 100000 in
theorem Spans_any (A0 : Option Addr) (c0 : Nat) (lots : List S46) (A1 : Option Addr) (c1 : Nat) (samples : List Int) (spread : Int) (A3 : Option Addr) (c3 : Nat) (labs : List S75) (B : Option Addr) (cB : Nat) (l : List Int) (w : World) (hr0 : Kd.C k46 w A0 lots.length lots) (hr1 : (Kd.int .i64).C w A1 samples.length samples) (hr3 : Kd.C k75 w A3 labs.length labs) (hrB : (Kd.int .i64).C w B l.length l) (hl : l.length < 17592186044416) :
  Calls Try.prog 26 #[.agg #[.slice A0 lots.length c0, .slice A1 samples.length c1, .int .i64 spread, .slice A3 labs.length c3], .slice B l.length cB] w fun e w' => ∃ v, e = .returned (.tuple #[v, .int .i64 (spansR lots samples spread labs l).2]) ∧ Kd.R k46 46 w' w.heap.size (fun _ => True) v (spansR lots samples spread labs l).1 ∧ Below w.heap.size w w' := by
 by_cases hc : askedE lots samples spread labs l = 0
 ·obtain ⟨H1, hok⟩ := asked_fine A0 c0 lots A1 c1 samples spread A3 c3 labs B cB l (w.alloc (.cells #[.slice A0 lots.length c0, .slice A1 samples.length c1, .int .i64 spread, .slice A3 labs.length c3] 34)) (Kd.C_alloc hr0 _) (Kd.C_alloc hr1 _) (Kd.C_alloc hr3 _) (Kd.C_alloc hrB _) hl hc
  obtain ⟨r, hr⟩ : ∃ r, spansR lots samples spread labs l = r := ⟨_, rfl⟩
  have HX : ((spansF lots samples spread labs (offOf l) (-1) 0).2 = false → r = ([], 9)) ∧ ((spansF lots samples spread labs (offOf l) (-1) 0).2 = true → r = ((spansF lots samples spread labs (offOf l) (-1) 0).1, 0)) := by
   rw [← hr]
   unfold spansR
   rw [if_pos hc]
   exact ⟨fun h => by rw [if_neg (by rw [h]; exact Bool.false_ne_true)], fun h => if_pos h⟩
  rw [hr]
  clear hr
  replace HX := Aside0.mk HX
  have HC := Aside0.mk H1
  have HB0 := Aside0.mk (below_alloc (Below.refl _ w) (.cells #[.slice A0 lots.length c0, .slice A1 samples.length c1, .int .i64 spread, .slice A3 labs.length c3] 34))
  replace hok := Aside0.mk hok
  clear H1 hr0 hr1 hr3 hrB hc
  go_enter Try.func26, Try.ntmps26
  go_wp2_with (go_at_call 51; refine Aside0.out ?_)
  refine ⟨?_⟩
  refine HC.out.mono ?_
  clear HC
  rintro e w1 ⟨jb, mb, rfl, hj⟩
  have HJ := Aside0.mk (hj.step (below_alloc (Below.refl _ _) (.cells #[.bool (offOf l 0), .bool (offOf l 1), .bool (offOf l 2), .bool (offOf l 3), .bool (offOf l 4), .bool (offOf l 5)] 85)))
  have B7 := Aside0.mk (blk_new w1 (.cells #[.bool (offOf l 0), .bool (offOf l 1), .bool (offOf l 2), .bool (offOf l 3), .bool (offOf l 4), .bool (offOf l 5)] 85))
  clear hj
  go_wp2
  generalize w1.alloc (.cells #[.bool (offOf l 0), .bool (offOf l 1), .bool (offOf l 2), .bool (offOf l 3), .bool (offOf l 4), .bool (offOf l 5)] 85) = w2 at B7 HJ ⊢
  generalize w1.heap.size = g7 at B7 ⊢
  refine start_ (n := 9) (S := fun w' => w'.cell? ⟨g7, 0, none⟩ = some (.bool (offOf l 0)) ∧ w'.cell? ⟨g7, 1, none⟩ = some (.bool (offOf l 1)) ∧ w'.cell? ⟨g7, 2, none⟩ = some (.bool (offOf l 2)) ∧ w'.cell? ⟨g7, 3, none⟩ = some (.bool (offOf l 3)) ∧ w'.cell? ⟨g7, 4, none⟩ = some (.bool (offOf l 4)) ∧ w'.cell? ⟨g7, 5, none⟩ = some (.bool (offOf l 5))) (ds := []) #[false, false, false, false, false, false, false, false, false] (by kernel_rfl) rfl rfl ⟨(cells6 (blk_drew B7.out)).1, (cells6 (blk_drew B7.out)).2.1, (cells6 (blk_drew B7.out)).2.2.1, (cells6 (blk_drew B7.out)).2.2.2.1, (cells6 (blk_drew B7.out)).2.2.2.2.1, (cells6 (blk_drew B7.out)).2.2.2.2.2⟩ (fun hHeld => ?_)
  refine with_tabW spansT.tab4 spansT.bits4 (fun HT_ HW_ => ?_)
  replace B7 := Aside0.mk (blk_drew B7.out)
  replace HJ := Aside0.mk (HJ.out.step (below_drew1 (Below.refl _ _)))
  generalize w2.drew = w3 at B7 HJ hHeld ⊢
  refine pure_ (i := 0) (N := some 22) (v := ?_) (a' := ?_) #[true, false, false, false, false, false, false, false, false] rfl rfl (any_of HT_.out (by kernel_rfl)) (fun _ _ _ h => h) (Or.inl ⟨by rfl, ?_⟩) ?_ ?_
  rotate_left
  ·intro w'
   go_simp
   with_reducible rfl
  rotate_left
  ·simp only [Act.put, List.setIfInBounds_toArray, List.set_cons_zero, List.set_cons_succ, i64_w, i32_w]
   rfl
  refine take_ (i := 1) (N := some 23) (v := ?_) (a' := ?_) #[true, true, false, false, false, false, false, false, false] rfl rfl (take_ofW HT_.out HW_.out (by kernel_rfl)) (fun _ _ _ h => h) (Or.inl ⟨by rfl, ?_⟩) hHeld ?_ ?_
  rotate_left
  ·rintro w' ⟨s0, s1, s2, s3, s4, s5⟩
   go_simp
   with_reducible rfl
  rotate_left
  ·simp only [Act.put, List.setIfInBounds_toArray, List.set_cons_zero, List.set_cons_succ, i64_w, i32_w]
   rfl
  refine one_ (i := 2) (N := some 24) #[true, true, true, false, false, false, false, false, false] rfl rfl (one_of HT_.out (by kernel_rfl)) (by decide) (fun K hK => ?_)
  refine goes_ Try.func55 (by kernel_rfl) rfl #[] (by rfl) rfl rfl (by simp only [List.map_toArray, List.map_cons, List.map_nil]) ?_
  with_reducible refine (nobody_any _).mono ?_
  rintro e w4 ⟨rfl, hb⟩
  refine ⟨_, rfl, ?_⟩
  replace B7 := Aside0.mk (blk_below B7.out hb)
  replace HJ := Aside0.mk (HJ.out.step hb)
  clear hb
  refine hK.out _ _ ⟨(cells6 B7.out).1, (cells6 B7.out).2.1, (cells6 B7.out).2.2.1, (cells6 B7.out).2.2.2.1, (cells6 B7.out).2.2.2.2.1, (cells6 B7.out).2.2.2.2.2⟩ (fun hHeld => ?_)
  clear hK K
  refine norm_ (a' := ?_) ?_ ?_
  rotate_left
  ·show Act.put _ (some 24) _ = _
   simp only [Act.put, List.setIfInBounds_toArray, List.set_cons_zero, List.set_cons_succ, i64_w, i32_w]
   rfl
  refine one_ (i := 3) (N := some 25) #[true, true, true, true, false, false, false, false, false] rfl rfl (one_of HT_.out (by kernel_rfl)) (by decide) (fun K hK => ?_)
  refine goes_ Try.func54 (by kernel_rfl) rfl #[.pointer (some ⟨jb, 0, none⟩), .agg #[.bool (offOf l 0), .bool (offOf l 1), .bool (offOf l 2), .bool (offOf l 3), .bool (offOf l 4), .bool (offOf l 5)], .agg #[.int .i64 (-1), .int .i64 0]] (by rfl) rfl rfl (by simp only [List.map_toArray, List.map_cons, List.map_nil]; rfl) ?_
  with_reducible refine (spans_any jb A0 c0 lots A1 c1 samples spread A3 c3 labs (.map (some mb)) (offOf l) (-1) 0 _ HJ.out.at hok.out (by omega) (by omega)).mono ?_
  rintro e w5 ⟨vs, rfl, hrow, hb⟩
  refine ⟨_, rfl, ?_⟩
  have HRow := Aside0.mk (Kd.R_lower hrow (below_step HB0.out HJ.out.hb).size)
  clear hrow
  replace B7 := Aside0.mk (blk_below B7.out hb)
  replace HJ := Aside0.mk (HJ.out.step hb)
  clear hb
  refine hK.out _ _ ⟨(cells6 B7.out).1, (cells6 B7.out).2.1, (cells6 B7.out).2.2.1, (cells6 B7.out).2.2.2.1, (cells6 B7.out).2.2.2.2.1, (cells6 B7.out).2.2.2.2.2⟩ (fun hHeld => ?_)
  clear hK K
  refine norm_ (a' := ?_) ?_ ?_
  rotate_left
  ·show Act.put _ (some 25) _ = _
   simp only [Act.put, List.setIfInBounds_toArray, List.set_cons_zero, List.set_cons_succ, i64_w, i32_w]
   rfl
  refine pure_ (i := 4) (N := some 21) (v := ?_) (a' := ?_) #[true, true, true, true, true, false, false, false, false] rfl rfl (any_of HT_.out (by kernel_rfl)) (fun _ _ _ h => h) (Or.inl ⟨by rfl, ?_⟩) ?_ ?_
  rotate_left
  ·intro w'
   go_simp
   with_reducible rfl
  rotate_left
  ·simp only [Act.put, List.setIfInBounds_toArray, List.set_cons_zero, List.set_cons_succ, i64_w, i32_w]
   rfl
  refine pure_ (i := 5) (N := some 26) (v := ?_) (a' := ?_) #[true, true, true, true, true, true, false, false, false] rfl rfl (any_of HT_.out (by kernel_rfl)) (fun _ _ _ h => h) (Or.inl ⟨by rfl, ?_⟩) ?_ ?_
  rotate_left
  ·intro w'
   go_simp
   with_reducible rfl
  rotate_left
  ·simp only [Act.put, List.setIfInBounds_toArray, List.set_cons_zero, List.set_cons_succ, i64_w, i32_w]
   rfl
  refine pure_ (i := 6) (N := some 27) (v := ?_) (a' := ?_) #[true, true, true, true, true, true, true, false, false] rfl rfl (any_of HT_.out (by kernel_rfl)) (fun _ _ _ h => h) (Or.inl ⟨by rfl, ?_⟩) ?_ ?_
  rotate_left
  ·intro w'
   go_simp
   with_reducible rfl
  rotate_left
  ·simp only [Act.put, List.setIfInBounds_toArray, List.set_cons_zero, List.set_cons_succ, i64_w, i32_w]
   rfl
  refine pure_ (i := 7) (N := some 9) (v := ?_) (a' := ?_) #[true, true, true, true, true, true, true, true, false] rfl rfl (any_of HT_.out (by kernel_rfl)) (fun _ _ _ h => h) (Or.inl ⟨by rfl, ?_⟩) ?_ ?_
  rotate_left
  ·intro w'
   go_simp
   with_reducible rfl
  rotate_left
  ·simp only [Act.put, List.setIfInBounds_toArray, List.set_cons_zero, List.set_cons_succ, i64_w, i32_w]
   rfl
  refine pure_ (i := 8) (N := some 10) (v := ?_) (a' := ?_) #[true, true, true, true, true, true, true, true, true] rfl rfl (any_of HT_.out (by kernel_rfl)) (fun _ _ _ h => h) (Or.inl ⟨by rfl, ?_⟩) ?_ ?_
  rotate_left
  ·intro w'
   go_simp
   with_reducible rfl
  rotate_left
  ·simp only [Act.put, List.setIfInBounds_toArray, List.set_cons_zero, List.set_cons_succ, i64_w, i32_w]
   rfl
  refine done_ (done_of HT_.out (by kernel_rfl)) ?_
  clear hHeld
  have HB := Aside0.mk (below_step HB0.out HJ.out.hb)
  cases hcan : (spansF lots samples spread labs (offOf l) (-1) 0).2
  ·obtain rfl := HX.out.1 hcan
   clear hcan HX
   go_wp2
   go_ret2
   exact ⟨_, rfl, Kd.R_nil _ _ _ _ _, HB.out⟩
  ·obtain rfl := HX.out.2 hcan
   clear hcan HX
   go_wp2
   go_ret2
   exact ⟨_, rfl, HRow.out, HB.out⟩
 ·have HC := Aside0.mk (asked_err A0 c0 lots A1 c1 samples spread A3 c3 labs B cB l (w.alloc (.cells #[.slice A0 lots.length c0, .slice A1 samples.length c1, .int .i64 spread, .slice A3 labs.length c3] 34)) (Kd.C_alloc hr0 _) (Kd.C_alloc hr1 _) (Kd.C_alloc hr3 _) (Kd.C_alloc hrB _) hl hc)
  have HX : spansR lots samples spread labs l = ([], askedE lots samples spread labs l) := by unfold spansR; rw [if_neg hc]
  rw [HX]
  have HB0 := Aside0.mk (below_alloc (Below.refl _ w) (.cells #[.slice A0 lots.length c0, .slice A1 samples.length c1, .int .i64 spread, .slice A3 labs.length c3] 34))
  clear hr0 hr1 hr3 hrB HX
  generalize askedE lots samples spread labs l = c at hc HC ⊢
  have hne : (c != 0) = true := bne_iff_ne.2 hc
  clear hc
  go_enter Try.func26, Try.ntmps26
  go_wp2_with (go_at_call 51; refine Aside0.out ?_)
  refine ⟨?_⟩
  refine HC.out.mono ?_
  clear HC
  rintro e w1 ⟨rfl, hb⟩
  replace HB0 := Aside0.mk (below_step HB0.out hb)
  clear hb
  go_wp2
  go_ret2
  exact ⟨_, rfl, Kd.R_nil _ _ _ _ _, below_alloc HB0.out _⟩
end Go.Proofs.Ytcpbhklaffgokaa.Q
namespace Go.Proofs.Ytcpbhklaffgokaa.Q
open Go.RowKit Go.Proofs.YtcpbhklaffgokaaW.PrintWords Go.Proofs.YtcpbhklaffgokaaW.PrintLast Go.Proofs.YtcpbhklaffgokaaW.PrintMore
set_option linter.unusedVariables false
set_option linter.unusedSimpArgs false
def oneOff (lab : Int) (j : Nat) : Bool := false || decide (j = lab.toNat)
theorem one_set (lab : Int) (h : lab.toNat < 6) : (#[.bool false, .bool false, .bool false, .bool false, .bool false, .bool false] : Array Value).setIfInBounds lab.toNat (.bool true) = #[.bool (oneOff lab 0), .bool (oneOff lab 1), .bool (oneOff lab 2), .bool (oneOff lab 3), .bool (oneOff lab 4), .bool (oneOff lab 5)] := off_set (fun _ => false) lab.toNat h
def canS (lots : List S46) (samples : List Int) (spread : Int) (labs : List S75) (lab d : Int) : Bool := (spansF lots samples spread labs (fun _ => false) lab d).2
def shK (can : Int → Bool) : Nat → S46
 | 0 => { f0 := 1073741824, f1 := -1073741824 }
 | k + 1 => if can ((k : Int) - 2000) = true then { f0 := min (shK can k).f0 ((k : Int) - 2000), f1 := (k : Int) - 2000 } else shK can k
def shiftsF (lots : List S46) (samples : List Int) (spread : Int) (labs : List S75) (lab : Int) : S46 × Int :=
 if checkRound lots samples spread labs ≠ 0 then ({ f0 := 0, f1 := 0 }, checkRound lots samples spread labs)
 else if withinB lab 0 ((labs.length : Int) - 1) = false then ({ f0 := 0, f1 := 0 }, 2)
 else if canF lots samples spread labs (oneOff lab) = false then ({ f0 := 0, f1 := 0 }, 9)
 else if (shK (canS lots samples spread labs lab) 4001).f0 = 1073741824 ∧ (shK (canS lots samples spread labs lab) 4001).f1 = -1073741824 then ({ f0 := 0, f1 := 0 }, 7)
 else (shK (canS lots samples spread labs lab) 4001, 0)
theorem shiftsF_a {lots : List S46} {samples : List Int} {spread : Int} {labs : List S75} {lab : Int} (h0 : checkRound lots samples spread labs = 0) (h1 : withinB lab 0 ((labs.length : Int) - 1) = false) : shiftsF lots samples spread labs lab = ({ f0 := 0, f1 := 0 }, 2) := by
 unfold shiftsF
 rw [if_neg (by simp [h0]), if_pos h1]
theorem shiftsF_b {lots : List S46} {samples : List Int} {spread : Int} {labs : List S75} {lab : Int} (h0 : checkRound lots samples spread labs = 0) (h1 : withinB lab 0 ((labs.length : Int) - 1) = true) (h2 : canF lots samples spread labs (oneOff lab) = false) : shiftsF lots samples spread labs lab = ({ f0 := 0, f1 := 0 }, 9) := by
 unfold shiftsF
 rw [if_neg (by simp [h0]), if_neg (by simp [h1]), if_pos h2]
theorem shiftsF_c {lots : List S46} {samples : List Int} {spread : Int} {labs : List S75} {lab : Int} (h0 : checkRound lots samples spread labs = 0) (h1 : withinB lab 0 ((labs.length : Int) - 1) = true) (h2 : canF lots samples spread labs (oneOff lab) = true)
  (h3 : (shK (canS lots samples spread labs lab) 4001).f0 = 1073741824 ∧ (shK (canS lots samples spread labs lab) 4001).f1 = -1073741824) : shiftsF lots samples spread labs lab = ({ f0 := 0, f1 := 0 }, 7) := by
 unfold shiftsF
 rw [if_neg (by simp [h0]), if_neg (by simp [h1]), if_neg (by simp [h2]), if_pos h3]
theorem shiftsF_d {lots : List S46} {samples : List Int} {spread : Int} {labs : List S75} {lab : Int} (h0 : checkRound lots samples spread labs = 0) (h1 : withinB lab 0 ((labs.length : Int) - 1) = true) (h2 : canF lots samples spread labs (oneOff lab) = true)
  (h3 : ¬ ((shK (canS lots samples spread labs lab) 4001).f0 = 1073741824 ∧ (shK (canS lots samples spread labs lab) 4001).f1 = -1073741824)) : shiftsF lots samples spread labs lab = (shK (canS lots samples spread labs lab) 4001, 0) := by
 unfold shiftsF
 rw [if_neg (by simp [h0]), if_neg (by simp [h1]), if_neg (by simp [h2]), if_neg h3]
def ShPost (w : World) (r : S46 × Int) (e : Ending) (w' : World) : Prop := e = .returned (.tuple #[.agg #[.int .i64 r.1.f0, .int .i64 r.1.f1], .int .i64 r.2]) ∧ Below w.heap.size w w'
theorem put2 {W : World} {g : Nat} {a b : Value} {t : TypeId} (h : W.heap[g]? = some (.cells #[a, b] t (0, 0))) (u0 u1 : Value) : ((W.setCell ⟨g, 0, none⟩ u0).setCell ⟨g, 1, none⟩ u1).heap[g]? = some (.cells #[u0, u1] t (0, 0)) :=
 blk_put (blk_put h 0 u0 rfl) 1 u1 rfl
theorem cells2 {W : World} {g : Nat} {a b : Value} {t : TypeId} (h : W.heap[g]? = some (.cells #[a, b] t (0, 0))) : W.cell? ⟨g, 0, none⟩ = some a ∧ W.cell? ⟨g, 1, none⟩ = some b := ⟨(blk_cell h 0).trans rfl, (blk_cell h 1).trans rfl⟩
set_option maxHeartbeats 4000000 in
set_option maxRecDepth 100000 in
theorem shifts_bad (A0 : Option Addr) (c0 : Nat) (lots : List S46) (A1 : Option Addr) (c1 : Nat) (samples : List Int) (spread : Int) (A3 : Option Addr) (c3 : Nat) (labs : List S75) (lab : Int) (w : World) (hr0 : Kd.C k46 w A0 lots.length lots) (hr1 : (Kd.int .i64).C w A1 samples.length samples) (hr3 : Kd.C k75 w A3 labs.length labs) (hc : checkRound lots samples spread labs ≠ 0) :
  Calls Try.prog 32 #[.agg #[.slice A0 lots.length c0, .slice A1 samples.length c1, .int .i64 spread, .slice A3 labs.length c3], .int .i64 lab] w (ShPost w ({ f0 := 0, f1 := 0 }, checkRound lots samples spread labs)) := by
 have HC := Aside0.mk (judge_bad A0 c0 lots A1 c1 samples spread A3 c3 labs ((w.alloc (.cells #[.slice A0 lots.length c0, .slice A1 samples.length c1, .int .i64 spread, .slice A3 labs.length c3] 34)).alloc (.cells #[.int .i64 0, .int .i64 0] 46)) (Kd.C_alloc (Kd.C_alloc hr0 _) _) (Kd.C_alloc (Kd.C_alloc hr1 _) _) (Kd.C_alloc (Kd.C_alloc hr3 _) _) hc)
 have B4 := blk_new (w.alloc (.cells #[.slice A0 lots.length c0, .slice A1 samples.length c1, .int .i64 spread, .slice A3 labs.length c3] 34)) (.cells #[.int .i64 0, .int .i64 0] 46)
 rw [World.size_alloc] at B4
 replace B4 := Aside0.mk B4
 clear hr0 hr1 hr3
 generalize checkRound lots samples spread labs = c at hc HC ⊢
 have hne : (c != 0) = true := bne_iff_ne.2 hc
 clear hc
 go_enter Try.func32, Try.ntmps32
 go_wp2_with (go_at_call 57; refine Aside0.out ?_)
 refine ⟨?_⟩
 refine HC.out.mono ?_
 clear HC
 rintro e w1 ⟨rfl, hb⟩
 have HB := Aside0.mk (below_step (below_alloc (below_alloc (Below.refl _ _) _) _) hb)
 replace B4 := Aside0.mk (blk_below B4.out hb)
 clear hb
 obtain ⟨q0, q1⟩ := cells2 B4.out
 have z0 := blk_frozen B4.out 0
 have z1 := blk_frozen B4.out 1
 go_wp2
 refine bodyPost_ret (results_ct rfl _ _ (w.heap.size + 1) 46 _ (0, 0) _ rfl (put2 B4.out _ _) rfl rfl rfl) rfl ?_
 exact ⟨rfl, below_set (below_set HB.out (by omega)) (by omega)⟩
set_option maxHeartbeats 8000000 in
set_option maxRecDepth 100000 in
theorem shifts_ok (A0 : Option Addr) (c0 : Nat) (lots : List S46) (A1 : Option Addr) (c1 : Nat) (samples : List Int) (spread : Int) (A3 : Option Addr) (c3 : Nat) (labs : List S75) (lab : Int) (w : World) (hr0 : Kd.C k46 w A0 lots.length lots) (hr1 : (Kd.int .i64).C w A1 samples.length samples) (hr3 : Kd.C k75 w A3 labs.length labs) (hc : checkRound lots samples spread labs = 0) (r : S46 × Int) (hr : shiftsF lots samples spread labs lab = r) :
  Calls Try.prog 32 #[.agg #[.slice A0 lots.length c0, .slice A1 samples.length c1, .int .i64 spread, .slice A3 labs.length c3], .int .i64 lab] w (ShPost w r) := by
 have HC := Aside0.mk (judge_ok A0 c0 lots A1 c1 samples spread A3 c3 labs ((w.alloc (.cells #[.slice A0 lots.length c0, .slice A1 samples.length c1, .int .i64 spread, .slice A3 labs.length c3] 34)).alloc (.cells #[.int .i64 0, .int .i64 0] 46)) (Kd.C_alloc (Kd.C_alloc hr0 _) _) (Kd.C_alloc (Kd.C_alloc hr1 _) _) (Kd.C_alloc (Kd.C_alloc hr3 _) _) hc)
 have hok := roundOk_of_check hc
 have b6 := hok.b6
 replace hok := Aside0.mk hok
 have HR := Aside0.mk (And.intro hr0 (And.intro hr1 hr3))
 have HS := Aside0.mk hr
 have HB0 := Aside0.mk (below_alloc (below_alloc (Below.refl _ w) (.cells #[.slice A0 lots.length c0, .slice A1 samples.length c1, .int .i64 spread, .slice A3 labs.length c3] 34)) (.cells #[.int .i64 0, .int .i64 0] 46))
 have B4 := blk_new (w.alloc (.cells #[.slice A0 lots.length c0, .slice A1 samples.length c1, .int .i64 spread, .slice A3 labs.length c3] 34)) (.cells #[.int .i64 0, .int .i64 0] 46)
 rw [World.size_alloc] at B4
 replace B4 := Aside0.mk B4
 have B2 := Aside0.mk (blk_alloc (blk_new w (.cells #[.slice A0 lots.length c0, .slice A1 samples.length c1, .int .i64 spread, .slice A3 labs.length c3] 34)) (.cells #[.int .i64 0, .int .i64 0] 46))
 have hsz : ((w.alloc (.cells #[.slice A0 lots.length c0, .slice A1 samples.length c1, .int .i64 spread, .slice A3 labs.length c3] 34)).alloc (.cells #[.int .i64 0, .int .i64 0] 46)).heap.size = w.heap.size + 2 := by simp
 replace hc := Aside0.mk hc
 clear hr0 hr1 hr3 hr
 go_enter Try.func32, Try.ntmps32
 go_wp2_with (go_at_call 57; refine Aside0.out ?_)
 refine ⟨?_⟩
 refine HC.out.mono ?_
 clear HC
 generalize ((w.alloc (.cells #[.slice A0 lots.length c0, .slice A1 samples.length c1, .int .i64 spread, .slice A3 labs.length c3] 34)).alloc (.cells #[.int .i64 0, .int .i64 0] 46)) = w0 at hsz HB0 B4 B2 ⊢
 rintro e w1 ⟨jb, mb, rfl, hj⟩
 have HJW := Aside0.mk hj
 replace B4 := Aside0.mk (blk_below B4.out hj.hb)
 replace B2 := Aside0.mk (blk_below B2.out hj.hb)
 have hg1 : w0.heap.size ≤ w1.heap.size := hj.hb.size
 have hjg : jb < w1.heap.size := blk_lt hj.blk
 have hmg : mb < w1.heap.size := by obtain ⟨es, c, h, _⟩ := hj.map; exact blk_lt h
 have hjw := hj.gj
 have hmw := hj.gm
 clear hj
 obtain ⟨p0, p1, p2, p3⟩ := cells4 B2.out
 obtain ⟨q0, q1⟩ := cells2 B4.out
 have z0 := blk_frozen B4.out 0
 have z1 := blk_frozen B4.out 1
 have HW := Aside0.mk (within_any lab 0 ((labs.length : Int) - 1))
 cases hW : withinB lab 0 ((labs.length : Int) - 1)
 ·simp only [hW] at HW
  obtain rfl : r = ({ f0 := 0, f1 := 0 }, 2) := HS.out.symm.trans (shiftsF_a hc.out hW)
  have HB := Aside0.mk (below_step HB0.out HJW.out.hb)
  clear hW HS
  go_wp2_with (go_at_call 44; (with_reducible refine (HW.out _).mono ?_); rintro e w' ⟨rfl, rfl⟩)
  (try simp only [Exit.inBlock, Exit.then])
  refine bodyPost_ret (results_ct rfl _ _ (w.heap.size + 1) 46 _ (0, 0) _ rfl (put2 B4.out _ _) rfl rfl rfl) rfl ?_
  exact ⟨rfl, below_set (below_set HB.out (by omega)) (by omega)⟩
 simp only [hW] at HW
 have hx : 0 ≤ lab ∧ lab ≤ (labs.length : Int) - 1 := by simpa [withinB] using hW
 obtain ⟨hx0, hx1⟩ := hx
 replace hW := Aside0.mk hW
 replace HJW := Aside0.mk (HJW.out.step (below_alloc (Below.refl _ w1) (.cells #[.bool (oneOff lab 0), .bool (oneOff lab 1), .bool (oneOff lab 2), .bool (oneOff lab 3), .bool (oneOff lab 4), .bool (oneOff lab 5)] 85)))
 replace B4 := Aside0.mk (blk_alloc B4.out (.cells #[.bool (oneOff lab 0), .bool (oneOff lab 1), .bool (oneOff lab 2), .bool (oneOff lab 3), .bool (oneOff lab 4), .bool (oneOff lab 5)] 85))
 clear q0 q1 z0 z1
 have hset : ([.bool false, .bool false, .bool false, .bool false, .bool false, .bool false] : List Value).set lab.toNat (.bool true) = [.bool (oneOff lab 0), .bool (oneOff lab 1), .bool (oneOff lab 2), .bool (oneOff lab 3), .bool (oneOff lab 4), .bool (oneOff lab 5)] := by
  have h := congrArg Array.toList (one_set lab (by omega))
  simpa using h
 have B8 := Aside0.mk (blk_new w1 (.cells #[.bool false, .bool false, .bool false, .bool false, .bool false, .bool false] 85))
 go_wp2_with (first | (go_at_call 44; (with_reducible refine (HW.out _).mono ?_); rintro e w' ⟨rfl, rfl⟩; have q8 := (blk_cell B8.out lab.toNat).trans (off_at (fun _ => false) lab.toNat (by omega)); have z8 := blk_frozen B8.out lab.toNat) | (go_at_call 52; refine Aside0.out ?_))
 clear hset q8 z8 B8
 refine ⟨?_⟩
 have hg2 : w1.heap.size ≤ (w1.alloc (.cells #[.bool (oneOff lab 0), .bool (oneOff lab 1), .bool (oneOff lab 2), .bool (oneOff lab 3), .bool (oneOff lab 4), .bool (oneOff lab 5)] 85)).heap.size := by simp
 generalize w1.alloc (.cells #[.bool (oneOff lab 0), .bool (oneOff lab 1), .bool (oneOff lab 2), .bool (oneOff lab 3), .bool (oneOff lab 4), .bool (oneOff lab 5)] 85) = w2 at hg2 HJW B4 ⊢
 refine (explain_any _ jb mb A0 c0 lots A1 c1 samples spread A3 c3 labs (oneOff lab) w2 HJW.out hok.out).mono ?_
 rintro e w3 ⟨rfl, hj3, hk3⟩
 replace HJW := Aside0.mk hj3
 replace B4 := Aside0.mk ((hk3.block (w.heap.size + 1) (blk_lt B4.out) (by omega)).trans B4.out)
 replace hg1 : w0.heap.size ≤ w3.heap.size := by have := hk3.size; omega
 replace hjg : jb < w3.heap.size := blk_lt hj3.blk
 replace hmg : mb < w3.heap.size := by obtain ⟨es, c, h, _⟩ := hj3.map; exact blk_lt h
 clear hj3 hk3 hg2
 have HB := Aside0.mk (below_step HB0.out HJW.out.hb)
 cases hcan : canF lots samples spread labs (oneOff lab)
 ·obtain rfl : r = ({ f0 := 0, f1 := 0 }, 9) := HS.out.symm.trans (shiftsF_b hc.out hW.out hcan)
  obtain ⟨q0, q1⟩ := cells2 B4.out
  have z0 := blk_frozen B4.out 0
  have z1 := blk_frozen B4.out 1
  clear hcan HS
  go_wp2
  (try simp only [Exit.inBlock, Exit.then])
  refine bodyPost_ret (results_ct rfl _ _ (w.heap.size + 1) 46 _ (0, 0) _ rfl (put2 B4.out _ _) rfl rfl rfl) rfl ?_
  exact ⟨rfl, below_set (below_set HB.out (by omega)) (by omega)⟩
 replace hcan := Aside0.mk hcan
 have B9 := Aside0.mk (blk_new w3 (.cells #[.int .i64 1073741824, .int .i64 (-1073741824)] 46))
 replace HJW := Aside0.mk (HJW.out.step (below_alloc (Below.refl _ w3) (.cells #[.int .i64 1073741824, .int .i64 (-1073741824)] 46)))
 replace B4 := Aside0.mk (blk_alloc B4.out (.cells #[.int .i64 1073741824, .int .i64 (-1073741824)] 46))
 go_wp2
 generalize w3.alloc (.cells #[.int .i64 1073741824, .int .i64 (-1073741824)] 46) = w4 at HJW B4 B9 ⊢
 generalize w3.heap.size = g9 at hg1 hjg hmg B9 ⊢
 have HCN := Aside0.mk (show canS lots samples spread labs lab = canS lots samples spread labs lab from rfl)
 go_loopw [10] (fun q wr => ∃ k : Int, 0 ≤ k ∧ k ≤ 4001 ∧ q = .int .i64 (k - 2000) ∧ Aside0 (JW w0 jb mb A0 c0 lots A1 c1 samples spread A3 c3 labs wr) ∧ Aside0 (wr.heap[g9]? = some (.cells #[.int .i64 (shK (canS lots samples spread labs lab) k.toNat).f0, .int .i64 (shK (canS lots samples spread labs lab) k.toNat).f1] 46 (0, 0))) ∧ Aside0 (wr.heap[w.heap.size + 1]? = some (.cells #[.int .i64 0, .int .i64 0] 46 (0, 0)))) (fun q _ => (2001 - intOf q).toNat)
 case atStart => exact ⟨0, by omega, by omega, rfl, HJW, B9, B4⟩
 case round =>
  obtain ⟨k, hk0, hk, rfl, HJW, B9, B4⟩ := hrel
  by_cases hlt : k ≤ 4000
  ·have HK1 : Aside0 ((k + 1).toNat = k.toNat + 1) := ⟨by omega⟩
   have HK2 : Aside0 ((k.toNat : Int) = k) := ⟨by omega⟩
   have HC := Aside0.mk (spans_any jb A0 c0 lots A1 c1 samples spread A3 c3 labs (.map (some mb)) (fun _ => false) lab (k - 2000) wr HJW.out.at hok.out (by omega) (by omega))
   cases hcn : (spansF lots samples spread labs (fun _ => false) lab (k - 2000)).2
   ·have HSt : Aside0 (shK (canS lots samples spread labs lab) (k + 1).toNat = shK (canS lots samples spread labs lab) k.toNat) := ⟨by rw [HK1.out]; simp only [shK]; rw [HK2.out, if_neg (by unfold canS; rw [hcn]; exact Bool.false_ne_true)]⟩
    unfold SpansPost at HC
    simp only [hcn] at HC
    clear hcn
    go_wp2_with (go_at_call 54; (with_reducible refine HC.out.mono ?_); rintro e w5 ⟨v, rfl, hrow, hb⟩; clear hrow; have HJ5 := Aside0.mk (HJW.out.step hb); have B95 := Aside0.mk (blk_below B9.out hb); have B45 := Aside0.mk (blk_below B4.out hb); clear hb)
    exact ⟨⟨k + 1, by omega, by omega, by congr 1; omega, HJ5, ⟨by rw [HSt.out]; exact B95.out⟩, B45⟩, by simp only [intOf]; omega⟩
   ·have HSt : Aside0 (shK (canS lots samples spread labs lab) (k + 1).toNat = { f0 := min (shK (canS lots samples spread labs lab) k.toNat).f0 (k - 2000), f1 := k - 2000 }) := ⟨by rw [HK1.out]; simp only [shK]; rw [HK2.out, if_pos (by unfold canS; rw [hcn])]⟩
    unfold SpansPost at HC
    simp only [hcn] at HC
    clear hcn
    generalize shK (canS lots samples spread labs lab) k.toNat = sk at HSt B9 ⊢
    go_wp2_with (first | (go_at_call 54; (with_reducible refine HC.out.mono ?_); rintro e w5 ⟨v, rfl, hrow, hb⟩; clear hrow; have HJ5 := Aside0.mk (HJW.out.step hb); have B95 := Aside0.mk (blk_below B9.out hb); have B45 := Aside0.mk (blk_below B4.out hb); clear hb; obtain ⟨q0, q1⟩ := cells2 B95.out) | (go_at_call 60; refine Aside0.out ?_))
    refine ⟨?_⟩
    have L := blk_new w5 (.cells #[.int .i64 sk.f0, .int .i64 (k - 2000)] 3)
    have HJ6 := Aside0.mk (HJ5.out.step (below_alloc (Below.refl _ w5) (.cells #[.int .i64 sk.f0, .int .i64 (k - 2000)] 3)))
    have B96 := Aside0.mk (blk_alloc B95.out (.cells #[.int .i64 sk.f0, .int .i64 (k - 2000)] 3))
    have B46 := Aside0.mk (blk_alloc B45.out (.cells #[.int .i64 sk.f0, .int .i64 (k - 2000)] 3))
    clear q0 q1 HJ5 B95 B45
    generalize w5.alloc (.cells #[.int .i64 sk.f0, .int .i64 (k - 2000)] 3) = w6 at L HJ6 B96 B46 ⊢
    refine (least_any _ _ _ _ _ ((blk_cell L 0).trans rfl) ((blk_cell L 1).trans rfl)).mono ?_
    clear L
    rintro e w7 ⟨rfl, rfl⟩
    obtain ⟨q0, q1⟩ := cells2 B96.out
    have z0 := blk_frozen B96.out 0
    have z1 := blk_frozen B96.out 1
    go_wp2
    exact ⟨⟨k + 1, by omega, by omega, by congr 1; omega, ⟨(HJ6.out.set1 hg1 hjg hmg _ _).set1 hg1 hjg hmg _ _⟩, ⟨by rw [HSt.out]; exact put2 B96.out _ _⟩, ⟨blk_far (blk_far B46.out (by simp; omega) _) (by simp; omega) _⟩⟩, by simp only [intOf]; omega⟩
  ·obtain rfl : k = 4001 := by omega
   have HB := Aside0.mk (below_step HB0.out HJW.out.hb)
   obtain ⟨q0, q1⟩ := cells2 B9.out
   obtain ⟨p0, p1⟩ := cells2 B4.out
   have y0 := blk_frozen B4.out 0
   have y1 := blk_frozen B4.out 1
   have HD := Aside0.mk (shiftsF_d hc.out hW.out hcan.out)
   have HE := Aside0.mk (shiftsF_c hc.out hW.out hcan.out)
   rw [show (4001 : Int).toNat = 4001 from rfl] at q0 q1
   generalize shK (canS lots samples spread labs lab) 4001 = sk at HD HE q0 q1 ⊢
   clear hlt hk0 hk
   by_cases h0 : sk.f0 = 1073741824
   ·by_cases h1 : sk.f1 = -1073741824
    ·obtain rfl : r = ({ f0 := 0, f1 := 0 }, 7) := HS.out.symm.trans (HE.out ⟨h0, h1⟩)
     go_wp2
     (try simp only [Exit.inBlock, Exit.then])
     refine bodyPost_ret (results_ct rfl _ _ (w.heap.size + 1) 46 _ (0, 0) _ rfl (put2 B4.out _ _) rfl rfl rfl) rfl ?_
     exact ⟨rfl, below_set (below_set HB.out (by omega)) (by omega)⟩
    ·obtain rfl : r = (sk, 0) := HS.out.symm.trans (HD.out (fun h => h1 h.2))
     go_wp2
     (try simp only [Exit.inBlock, Exit.then])
     refine bodyPost_ret (results_ct rfl _ _ (w.heap.size + 1) 46 _ (0, 0) _ rfl (put2 B4.out _ _) rfl rfl rfl) rfl ?_
     exact ⟨by simp only [h0]; rfl, below_set (below_set HB.out (by omega)) (by omega)⟩
   ·obtain rfl : r = (sk, 0) := HS.out.symm.trans (HD.out (fun h => h0 h.1))
    go_wp2
    (try simp only [Exit.inBlock, Exit.then])
    refine bodyPost_ret (results_ct rfl _ _ (w.heap.size + 1) 46 _ (0, 0) _ rfl (put2 B4.out _ _) rfl rfl rfl) rfl ?_
    exact ⟨rfl, below_set (below_set HB.out (by omega)) (by omega)⟩
theorem shifts_any (A0 : Option Addr) (c0 : Nat) (lots : List S46) (A1 : Option Addr) (c1 : Nat) (samples : List Int) (spread : Int) (A3 : Option Addr) (c3 : Nat) (labs : List S75) (lab : Int) (w : World) (hr0 : Kd.C k46 w A0 lots.length lots) (hr1 : (Kd.int .i64).C w A1 samples.length samples) (hr3 : Kd.C k75 w A3 labs.length labs) : Calls Try.prog 32 #[.agg #[.slice A0 lots.length c0, .slice A1 samples.length c1, .int .i64 spread, .slice A3 labs.length c3], .int .i64 lab] w (ShPost w (shiftsF lots samples spread labs lab)) := by
 by_cases h : checkRound lots samples spread labs = 0
 ·exact shifts_ok A0 c0 lots A1 c1 samples spread A3 c3 labs lab w hr0 hr1 hr3 h _ rfl
 ·have hx := shifts_bad A0 c0 lots A1 c1 samples spread A3 c3 labs lab w hr0 hr1 hr3 h
  unfold shiftsF
  rw [if_pos h]
  exact hx
end Go.Proofs.Ytcpbhklaffgokaa.Q
namespace Go.Proofs.Ytcpbhklaffgokaa.Q
open Go.RowKit Go.Proofs.YtcpbhklaffgokaaW.PrintWords Go.Proofs.YtcpbhklaffgokaaW.PrintLast Go.Proofs.YtcpbhklaffgokaaW.PrintMore
set_option linter.unusedVariables false
set_option linter.unusedSimpArgs false
def fromF (can : List Int → Bool) (n : Nat) : Nat → List Int → Nat → List (List Int)
 | 0, l, _ => if can l = true then [l] else []
 | m + 1, l, next => (List.range' next (n - next)).flatMap fun (k : Nat) => fromF can n m (l ++ [(k : Int)]) (k + 1)
def fromK (can : List Int → Bool) (n m : Nat) (l : List Int) (next k : Nat) : List (List Int) := (List.range' next (k - next)).flatMap fun (k : Nat) => fromF can n m (l ++ [(k : Int)]) (k + 1)
theorem fromK_start (can : List Int → Bool) (n m : Nat) (l : List Int) (next : Nat) : fromK can n m l next next = [] := by simp [fromK]
theorem fromK_end (can : List Int → Bool) (n m : Nat) (l : List Int) (next : Nat) : fromK can n m l next n = fromF can n (m + 1) l next := rfl
theorem fromK_step (can : List Int → Bool) (n m : Nat) (l : List Int) (next k : Nat) (h : next ≤ k) : fromK can n m l next (k + 1) = fromK can n m l next k ++ fromF can n m (l ++ [(k : Int)]) (k + 1) := by
 unfold fromK
 rw [show k + 1 - next = (k - next) + 1 by omega, List.range'_concat, List.flatMap_append]
 simp [show next + (k - next) = k by omega]
theorem fromF_length (can : List Int → Bool) (n : Nat) (hn : n ≤ 6) : ∀ (m : Nat) (l : List Int) (next : Nat), (fromF can n m l next).length ≤ 6 ^ m := by
 intro m
 induction m with
 | zero => intro l next; simp only [fromF]; split <;> simp
 | succ m ih =>
  intro l next
  simp only [fromF, List.length_flatMap]
  have : ∀ xs : List Nat, (xs.map fun (k : Nat) => (fromF can n m (l ++ [(k : Int)]) (k + 1)).length).sum ≤ xs.length * 6 ^ m := by
   intro xs
   induction xs with
   | nil => simp
   | cons x xs ih2 =>
    have h1 := ih (l ++ [(x : Int)]) (x + 1)
    simp only [List.map_cons, List.sum_cons, List.length_cons, Nat.add_mul, Nat.one_mul]
    omega
  have h2 := this (List.range' next (n - next))
  rw [List.length_range'] at h2
  have h3 : (n - next) * 6 ^ m ≤ 6 * 6 ^ m := Nat.mul_le_mul_right _ (by omega)
  rw [Nat.pow_succ, Nat.mul_comm]
  omega
theorem fromK_length (can : List Int → Bool) (n m : Nat) (hn : n ≤ 6) (l : List Int) (next k : Nat) : (fromK can n m l next k).length ≤ (k - next) * 6 ^ m := by
 unfold fromK
 rw [List.length_flatMap]
 have : ∀ xs : List Nat, (xs.map fun (k : Nat) => (fromF can n m (l ++ [(k : Int)]) (k + 1)).length).sum ≤ xs.length * 6 ^ m := by
  intro xs
  induction xs with
  | nil => simp
  | cons x xs ih2 =>
   have h1 := fromF_length can n hn m (l ++ [(x : Int)]) (x + 1)
   simp only [List.map_cons, List.sum_cons, List.length_cons, Nat.add_mul, Nat.one_mul]
   omega
 have h2 := this (List.range' next (k - next))
 rwa [List.length_range'] at h2
theorem offOf_push (l : List Int) (k : Nat) (j : Nat) : offOf (l ++ [(k : Int)]) j = (offOf l j || decide (j = k)) := by
 unfold offOf
 rw [List.contains_append]
 congr 1
 rw [Bool.eq_iff_iff]
 simp
 omega
theorem push_set (l : List Int) (k : Nat) (hk : k < 6) : ([.bool (offOf l 0), .bool (offOf l 1), .bool (offOf l 2), .bool (offOf l 3), .bool (offOf l 4), .bool (offOf l 5)] : List Value).set k (.bool true) =
  [.bool (offOf (l ++ [(k : Int)]) 0), .bool (offOf (l ++ [(k : Int)]) 1), .bool (offOf (l ++ [(k : Int)]) 2), .bool (offOf (l ++ [(k : Int)]) 3), .bool (offOf (l ++ [(k : Int)]) 4), .bool (offOf (l ++ [(k : Int)]) 5)] := by
 have h := congrArg Array.toList (off_set (offOf l) k hk)
 simp only [offOf_push]
 simpa using h
abbrev kll : Kd (List Int) := Kd.slice 3 (Kd.int .i64)
theorem R_kb {α : Type} {d : Kd α} {e base n mb : Nat} {ok : Nat → Prop} {v : Value} {xs : List α} {W W' : World} {es : Array MapEntry} {c : Nat} (h : d.R e W base ok v xs) (hk : Kb n mb W W') (hn : n = W.heap.size) (hm : W.heap[mb]? = some (.map es c)) : d.R e W' base ok v xs := by
 subst hn
 refine Kd.R_mono (Kd.R_step (Kd.R_bound h) fun k hk1 hlt => hk.block k hlt ?_) (fun _ hk => hk.1)
 rintro rfl
 obtain ⟨_, _, _, q, _, cells, hc⟩ := hk1
 rw [hm] at hc
 cases hc
theorem R_cellT {α : Type} {d : Kd α} {e base g i t : Nat} {ok : Nat → Prop} {v u : Value} {xs : List α} {W : World} {cs : Array Value} (h : d.R e W base ok v xs) (hg : W.heap[g]? = some (.cells cs t (0, 0))) (ht : ∀ q, q ∈ e :: d.E → q ≠ t) : d.R e (W.setCell ⟨g, i, none⟩ u) base ok v xs := by
 refine Kd.R_mono (Kd.R_step (Kd.R_bound h) fun k hk1 hlt => Below.heap_setCell W _ _ _ ?_) (fun _ hk => hk.1)
 rintro rfl
 obtain ⟨_, _, _, q, hq, cells, hc⟩ := hk1
 have : some (Obj.cells cs t (0, 0)) = some (Obj.cells cells q (0, 0)) := hg.symm.trans hc
 injection this with this
 injection this with _ h2
 exact ht q hq h2.symm
theorem app3 {P : Program} {W : World} {base : Nat} {ok : Nat → Prop} {v : Value} {l : List Int} {i : TypeInfo} {z : Value} {t ty : TypeId} (ht : P.underlying t = some (.slice 3)) (hi : P.info? 3 = some i) (hz : i.zero = some z) (hs : i.size = 1) (hby : i.bytes = 8) (hzs : z.cells.size = 1)
  (h : (Kd.int .i64).R 3 W base ok v l) (ga c : Nat) (k : Int) (hk : W.cell? ⟨ga, 0, none⟩ = some (.int .i64 k)) (hl : l.length ≤ 1000) (hb : base ≤ W.heap.size) :
  ∃ v' W', (Builtin.append_ #[t, t] ty #[v, .slice (some ⟨ga, 0, none⟩) 1 c]).run P W = .ok v' W' ∧ (Kd.int .i64).R 3 W' base (fun _ => True) v' (l ++ [k]) ∧ (Kd.int .i64).R 3 W' base ok v l ∧ W.grownBy W' v.ownBlock ∧ ((∃ A c', v = .slice A l.length c' ∧ v' = .slice A (l.length + 1) c') ∨ v'.ownBlock = some W.heap.size) := by
 have ho := Kd.own_of_R h
 have hnews : ∀ j u, ([.int .i64 k] : List Value)[j]? = some u → W.cell? ((⟨ga, 0, none⟩ : Addr).add j) = some u := by
  intro j u hj
  match j, hj with
  | 0, hj => simp at hj; subst hj; simp [Addr.add]; exact hk
 have h1 : ∀ u ∈ ([.int .i64 k] : List Value), u.oneCell' = true := by intro u hu; rw [List.mem_singleton.1 hu]; rfl
 obtain ⟨v', W', hr, h2, h3, _, h5⟩ := run_append_own_at (P := P) W base t ty 3 i z 1 8 ht hi hz hs hby hzs (by omega) v l.length _ ho ⟨ga, 0, none⟩ 1 c [.int .i64 k] rfl hnews h1 (by simp only [maxLen]; omega) (by omega) hb
 refine ⟨v', W', hr, Kd.R_of_own (by rw [List.length_append, List.length_singleton, encs_append]; exact h2) (fun _ _ => trivial), ?_, h3, ?_⟩
 rotate_left
 ·rcases ho.2 with ⟨rfl, hn⟩ | ⟨g, cap, cur, rfl, hbg, hg, hnc, hcm, hcs, htake⟩
  ·rcases h5 with h5 | h5
   ·obtain ⟨g, cap, rfl, _⟩ := h2.form (by omega)
    cases h5
   ·exact .inr h5
  ·by_cases hroom : l.length + 1 ≤ cap
   ·have hfit : l.length * i.size + [Value.int .i64 k].length ≤ cur.size := by rw [hs, hcs]; simp; omega
    have hr2 := run_append_room (P := P) W t ty 3 i ht hi g l.length cap cur hg ⟨ga, 0, none⟩ 1 c [.int .i64 k] (by rw [hs]; rfl) hnews h1 hroom hfit
    rw [hr] at hr2
    injection hr2 with hv
    subst hv
    exact .inl ⟨_, _, rfl, rfl⟩
   ·rcases h5 with h5 | h5
    ·have holds : ∀ j u, (encs (Value.int .i64) l)[j]? = some u → W.cell? ((⟨g, 0, none⟩ : Addr).add j) = some u := ho.cells (g := g) rfl
     have hr2 := run_append_grow (P := P) W t ty 3 i z ht hi hz ⟨g, 0, none⟩ l.length cap (encs (Value.int .i64) l) (by rw [hs]; exact ho.1) holds ⟨ga, 0, none⟩ 1 c [.int .i64 k] (by rw [hs]; rfl) hnews (by omega) (by omega) (growslice_fits (by omega) (by rw [hby]; omega))
     rw [hr] at hr2
     injection hr2 with hv
     subst hv
     exact .inr rfl
    ·exact .inr h5
 refine Kd.R_of_own ?_ h.1
 rcases ho.2 with ⟨rfl, hn⟩ | ⟨g, cap, cur, rfl, hbg, hg, hnc, hcm, hcs, htake⟩
 ·have hl0 : l = [] := List.eq_nil_of_length_eq_zero hn
  subst hl0
  exact World.ownsRow_nil W' base 3 1
 ·by_cases hroom : l.length + 1 ≤ cap
  ·have hfit : l.length * i.size + [Value.int .i64 k].length ≤ cur.size := by rw [hs, hcs]; simp; omega
   have hr2 := run_append_room (P := P) W t ty 3 i ht hi g l.length cap cur hg ⟨ga, 0, none⟩ 1 c [.int .i64 k] (by rw [hs]; rfl) hnews h1 hroom hfit
   rw [hr] at hr2
   injection hr2 with _ hw
   subst hw
   refine ⟨ho.1, .inr ⟨g, cap, _, rfl, hbg, setRow_heap W g cur _ 3 _ hg, hnc, hcm, ?_, ?_⟩⟩
   ·simp only [List.size_toArray, List.length_append, List.length_take, List.length_drop, Array.length_toList, hs, List.length_singleton]
    omega
   ·simp only [hs, Nat.mul_one] at htake ⊢
    rw [List.append_assoc, List.take_append_of_le_length (by rw [Nat.mul_one] at hcs; simp only [List.length_take, Array.length_toList]; omega), List.take_take, Nat.min_self]
    exact htake
  ·have holds : ∀ j u, (encs (Value.int .i64) l)[j]? = some u → W.cell? ((⟨g, 0, none⟩ : Addr).add j) = some u := ho.cells (g := g) rfl
   have hr2 := run_append_grow (P := P) W t ty 3 i z ht hi hz ⟨g, 0, none⟩ l.length cap (encs (Value.int .i64) l) (by rw [hs]; exact ho.1) holds ⟨ga, 0, none⟩ 1 c [.int .i64 k] (by rw [hs]; rfl) hnews (by omega) (by omega) (growslice_fits (by omega) (by rw [hby]; omega))
   rw [hr] at hr2
   injection hr2 with _ hw
   subst hw
   exact ⟨ho.1, .inr ⟨g, cap, cur, rfl, hbg, (heap_alloc_old W.drew _ (Array.getElem?_eq_some_iff.1 hg).1).trans hg, hnc, hcm, hcs, htake⟩⟩
end Go.Proofs.Ytcpbhklaffgokaa.Q
namespace Go.Proofs.Ytcpbhklaffgokaa.Q
open Go.RowKit Go.Proofs.YtcpbhklaffgokaaW.PrintWords Go.Proofs.YtcpbhklaffgokaaW.PrintLast Go.Proofs.YtcpbhklaffgokaaW.PrintMore
set_option linter.unusedVariables false
set_option linter.unusedSimpArgs false
theorem info23c : (Try.prog.info? 23).map (fun i => (i.zero, i.size, i.bytes)) = some (some (Value.slice none 0 0), 1, 24) := by kernel_rfl
theorem clone_any (base : Nat) (ok : Nat → Prop) (v : Value) (xs : List Int) (w : World) (hr : Kd.R (Kd.int .i64) 3 w base ok v xs) (hlen : xs.length < 1000000) :
  Calls Try.prog 79 #[v] w fun e w' => ∃ v' : Value, e = .returned v' ∧ Kd.R (Kd.int .i64) 3 w' w.heap.size (fun _ => True) v' xs ∧ Below w.heap.size w w' := by
 rcases (Kd.own_of_R hr).2 with ⟨rfl, hn⟩ | ⟨g, cap, cur, rfl, _⟩
 ·obtain rfl : xs = [] := List.eq_nil_of_length_eq_zero hn
  refine (clone3_nil w).mono ?_
  rintro e w' ⟨rfl, rfl⟩
  exact ⟨_, rfl, Kd.R_nil _ _ _ _ _, Below.refl _ _⟩
 ·exact clone3 _ _ _ _ (Kd.R_reads' hr).2.2 hlen
structure FS (w0 : World) (jb mb g1 g2 g3 g4 : Nat) (A0 : Option Addr) (c0 : Nat) (lots : List S46) (A1 : Option Addr) (c1 : Nat) (samples : List Int) (spread : Int) (A3 : Option Addr) (c3 : Nat) (labs : List S75) (vo : Value) (outs : List (List Int)) (ok : Nat → Prop) (W : World) : Prop where
 jw : JW w0 jb mb A0 c0 lots A1 c1 samples spread A3 c3 labs W
 b1 : W.heap[g1]? = some (.cells #[.pointer (some ⟨jb, 0, none⟩)] 83 (0, 0))
 b2 : W.heap[g2]? = some (.cells #[vo] 51 (0, 0))
 b3 : W.heap[g3]? = some (.cells #[.func (.func 52) #[.pointer (some ⟨jb, 0, none⟩)] #[]] 88 (0, 0))
 b4 : W.heap[g4]? = some (.cells #[.func (.func 78) #[] #[.pointer (some ⟨g3, 0, none⟩), .pointer (some ⟨g2, 0, none⟩), .pointer (some ⟨g1, 0, none⟩), .pointer (some ⟨g4, 0, none⟩)]] 114 (0, 0))
 out : Kd.R kll 23 W w0.heap.size ok vo outs
 l2 : w0.heap.size ≤ g2
theorem FS.below {w0 : World} {jb mb g1 g2 g3 g4 : Nat} {A0 : Option Addr} {c0 : Nat} {lots : List S46} {A1 : Option Addr} {c1 : Nat} {samples : List Int} {spread : Int} {A3 : Option Addr} {c3 : Nat} {labs : List S75} {vo : Value} {outs : List (List Int)} {ok : Nat → Prop} {W W' : World} (h : FS w0 jb mb g1 g2 g3 g4 A0 c0 lots A1 c1 samples spread A3 c3 labs vo outs ok W) (hb : Below W.heap.size W W') : FS w0 jb mb g1 g2 g3 g4 A0 c0 lots A1 c1 samples spread A3 c3 labs vo outs ok W' :=
 ⟨h.jw.step hb, blk_below h.b1 hb, blk_below h.b2 hb, blk_below h.b3 hb, blk_below h.b4 hb, Kd.R_below h.out hb, h.l2⟩
theorem ne_map {W : World} {g mb : Nat} {cs : Array Value} {t : TypeId} {fr : Nat × Nat} {es : Array MapEntry} {c : Nat} (h : W.heap[g]? = some (.cells cs t fr)) (hm : W.heap[mb]? = some (.map es c)) : g ≠ mb := by
 rintro rfl
 rw [h] at hm
 cases hm
theorem FS.kb {w0 : World} {jb mb g1 g2 g3 g4 : Nat} {A0 : Option Addr} {c0 : Nat} {lots : List S46} {A1 : Option Addr} {c1 : Nat} {samples : List Int} {spread : Int} {A3 : Option Addr} {c3 : Nat} {labs : List S75} {vo : Value} {outs : List (List Int)} {ok : Nat → Prop} {W W' : World} (h : FS w0 jb mb g1 g2 g3 g4 A0 c0 lots A1 c1 samples spread A3 c3 labs vo outs ok W) (hj : JW w0 jb mb A0 c0 lots A1 c1 samples spread A3 c3 labs W') (hk : Kb W.heap.size mb W W') : FS w0 jb mb g1 g2 g3 g4 A0 c0 lots A1 c1 samples spread A3 c3 labs vo outs ok W' := by
 obtain ⟨es, c, hm, _⟩ := h.jw.map
 exact ⟨hj, (hk.block _ (blk_lt h.b1) (ne_map h.b1 hm)).trans h.b1, (hk.block _ (blk_lt h.b2) (ne_map h.b2 hm)).trans h.b2, (hk.block _ (blk_lt h.b3) (ne_map h.b3 hm)).trans h.b3, (hk.block _ (blk_lt h.b4) (ne_map h.b4 hm)).trans h.b4, R_kb h.out hk rfl hm, h.l2⟩
structure Frame (mb g2 : Nat) (vo vl : Value) (W W' : World) : Prop where
 size : W.heap.size ≤ W'.heap.size
 block : ∀ k, k < W.heap.size → k ≠ mb → k ≠ g2 → some k ≠ vo.ownBlock → some k ≠ vl.ownBlock → W'.heap[k]? = W.heap[k]?
theorem Frame.of_kb {mb g2 n : Nat} {vo vl : Value} {W W' : World} (h : Kb n mb W W') (hn : n = W.heap.size) : Frame mb g2 vo vl W W' := ⟨h.size, fun k hk hm _ _ _ => h.block k (hn ▸ hk) hm⟩
theorem Frame.of_below {mb g2 : Nat} {vo vl : Value} {W W' : World} (h : Below W.heap.size W W') : Frame mb g2 vo vl W W' := ⟨h.size, fun k hk _ _ _ _ => h.block k hk⟩
def Same (W : World) (v v' : Value) : Prop := v'.ownBlock = v.ownBlock ∨ ∃ q, v'.ownBlock = some q ∧ W.heap.size ≤ q
theorem Same.refl (W : World) (v : Value) : Same W v v := .inl rfl
theorem Same.trans {W W1 : World} {v v1 v2 : Value} (h : Same W v v1) (h' : Same W1 v1 v2) (hs : W.heap.size ≤ W1.heap.size) : Same W v v2 := by
 rcases h' with h' | ⟨q, h1, h2⟩
 ·rcases h with h | ⟨q, h1, h2⟩
  ·exact .inl (h'.trans h)
  ·exact .inr ⟨q, h'.trans h1, h2⟩
 ·exact .inr ⟨q, h1, by omega⟩
theorem Same.ne {W : World} {v v' : Value} {k : Nat} (h : Same W v v') (hk : k < W.heap.size) (hne : some k ≠ v.ownBlock) : some k ≠ v'.ownBlock := by
 rcases h with h | ⟨q, h1, h2⟩
 ·rwa [h]
 ·rw [h1]; intro e; injection e with e; omega
theorem Frame.trans {mb g2 : Nat} {vo vl vo1 vl1 : Value} {W W1 W2 : World} (h : Frame mb g2 vo vl W W1) (h' : Frame mb g2 vo1 vl1 W1 W2) (ho : Same W vo vo1) (hl : Same W vl vl1) : Frame mb g2 vo vl W W2 :=
 ⟨Nat.le_trans h.size h'.size, fun k hk h1 h2 h3 h4 => (h'.block k (Nat.lt_of_lt_of_le hk h.size) h1 h2 (ho.ne hk h3) (hl.ne hk h4)).trans (h.block k hk h1 h2 h3 h4)⟩
theorem JW.change {w0 : World} {jb mb : Nat} {A0 : Option Addr} {c0 : Nat} {lots : List S46} {A1 : Option Addr} {c1 : Nat} {samples : List Int} {spread : Int} {A3 : Option Addr} {c3 : Nat} {labs : List S75} {W W' : World} (h : JW w0 jb mb A0 c0 lots A1 c1 samples spread A3 c3 labs W) (hb : Below w0.heap.size w0 W') (hj : W'.heap[jb]? = W.heap[jb]?) (hm : W'.heap[mb]? = W.heap[mb]?) : JW w0 jb mb A0 c0 lots A1 c1 samples spread A3 c3 labs W' := by
 obtain ⟨es, c, h1, h2⟩ := h.map
 exact ⟨h.r0, h.r1, h.r3, hb, h.gj, h.gm, hj.trans h.blk, es, c, hm.trans h1, h2⟩
theorem ne_row {W : World} {t g : Nat} {base : Nat} {ok : Nat → Prop} {vo : Value} {outs : List (List Int)} {cs : Array Value} {fr : Nat × Nat} (h : Kd.R kll 23 W base ok vo outs) (hg : W.heap[g]? = some (.cells cs t fr)) (ht : t ≠ 23) : some g ≠ vo.ownBlock := by
 intro he
 obtain ⟨cells, hc⟩ := Kd.R_typed h g he.symm
 rw [hg] at hc
 injection hc with hc
 injection hc with _ hc
 exact ht hc
theorem FS.grown {w0 : World} {jb mb g1 g2 g3 g4 : Nat} {A0 : Option Addr} {c0 : Nat} {lots : List S46} {A1 : Option Addr} {c1 : Nat} {samples : List Int} {spread : Int} {A3 : Option Addr} {c3 : Nat} {labs : List S75} {vo vo1 : Value} {outs outs1 : List (List Int)} {ok : Nat → Prop} {W W' : World} (h : FS w0 jb mb g1 g2 g3 g4 A0 c0 lots A1 c1 samples spread A3 c3 labs vo outs ok W) (hg : W.grownBy W' vo.ownBlock) (hb : Below w0.heap.size w0 W') (hr : Kd.R kll 23 W' w0.heap.size ok vo1 outs1) :
  W'.heap[g2]? = some (.cells #[vo] 51 (0, 0)) ∧ FS w0 jb mb g1 g2 g3 g4 A0 c0 lots A1 c1 samples spread A3 c3 labs vo1 outs1 ok (W'.setCell ⟨g2, 0, none⟩ vo1) := by
 obtain ⟨es, c, hm, _⟩ := h.jw.map
 have n1 : some g1 ≠ vo.ownBlock := ne_row h.out h.b1 (by decide)
 have n2 : some g2 ≠ vo.ownBlock := ne_row h.out h.b2 (by decide)
 have n3 : some g3 ≠ vo.ownBlock := ne_row h.out h.b3 (by decide)
 have n4 : some g4 ≠ vo.ownBlock := ne_row h.out h.b4 (by decide)
 have nj : some jb ≠ vo.ownBlock := ne_row h.out h.jw.blk (by decide)
 have nm : some mb ≠ vo.ownBlock := by
  intro he
  obtain ⟨cells, hc⟩ := Kd.R_typed h.out mb he.symm
  rw [hm] at hc
  cases hc
 have t1 := (hg.block _ (blk_lt h.b1) n1).trans h.b1
 have t2 := (hg.block _ (blk_lt h.b2) n2).trans h.b2
 have t3 := (hg.block _ (blk_lt h.b3) n3).trans h.b3
 have t4 := (hg.block _ (blk_lt h.b4) n4).trans h.b4
 have tj := hg.block _ (blk_lt h.jw.blk) nj
 have tm := hg.block _ (blk_lt hm) nm
 have d1 : g1 ≠ g2 := blk_ne t1 t2 (by decide)
 have d3 : g3 ≠ g2 := blk_ne t3 t2 (by decide)
 have d4 : g4 ≠ g2 := blk_ne t4 t2 (by decide)
 have dj : jb ≠ g2 := blk_ne (tj.trans h.jw.blk) t2 (by decide)
 have dm : mb ≠ g2 := fun e => by have := tm.trans hm; rw [e, t2] at this; cases this
 refine ⟨t2, (h.jw.change (below_set hb h.l2) ((Below.heap_setCell _ _ _ _ dj).trans tj) ((Below.heap_setCell _ _ _ _ dm).trans tm)), blk_far t1 d1 _, blk_put t2 0 vo1 rfl, blk_far t3 d3 _, blk_far t4 d4 _, R_cellT hr t2 (by decide), h.l2⟩
def FP (w0 : World) (jb mb g1 g2 g3 g4 : Nat) (A0 : Option Addr) (c0 : Nat) (lots : List S46) (A1 : Option Addr) (c1 : Nat) (samples : List Int) (spread : Int) (A3 : Option Addr) (c3 : Nat) (labs : List S75) (vl : Value) (l : List Int) (vo : Value) (outs res : List (List Int)) (ok : Nat → Prop) (W : World) (e : Ending) (W' : World) : Prop :=
 e = .returned (.tuple #[]) ∧ ∃ vo', FS w0 jb mb g1 g2 g3 g4 A0 c0 lots A1 c1 samples spread A3 c3 labs vo' (outs ++ res) ok W' ∧ Kd.R (Kd.int .i64) 3 W' w0.heap.size (fun _ => True) vl l ∧ Same W vo vo' ∧ Frame mb g2 vo vl W W'
def fromT.T3 : Bool × List (List Nat × List Nat) := (true, [([], []), ([], []), ([1], [1]), ([2], [2]), ([0, 3, 2], [0, 3]), ([4, 4, 0, 1, 2, 3, 4], [4])])
def fromT.B3 : List Nat := [0, 0, 2, 6, 15, 31]
theorem fromT.tab3 : rtab .any (opsOf Try.f78 3) = fromT.T3 := by kernel_rfl
theorem fromT.bits3 : waitsOk fromT.T3.2 fromT.B3 = true := by kernel_rfl
set_option maxHeartbeats 8000000 in
set_option maxRecDepth 100000 in
theorem from_zero (w0 : World) (jb mb g1 g2 g3 g4 : Nat) (A0 : Option Addr) (c0 : Nat) (lots : List S46) (A1 : Option Addr) (c1 : Nat) (samples : List Int) (spread : Int) (A3 : Option Addr) (c3 : Nat) (labs : List S75) (hok : RoundOk lots samples spread labs) (vl : Value) (l : List Int) (vo : Value) (outs : List (List Int)) (next : Nat) (W : World) (hl : l.length ≤ 6) (ho : outs.length + 1 ≤ 1000000)
  (ok : Nat → Prop) (hfr : ∀ k, W.heap.size ≤ k → ok k) (hs : FS w0 jb mb g1 g2 g3 g4 A0 c0 lots A1 c1 samples spread A3 c3 labs vo outs ok W) (hr : Kd.R (Kd.int .i64) 3 W w0.heap.size (fun _ => True) vl l) (res : List (List Int)) (hres : res = if canF lots samples spread labs (offOf l) = true then [l] else []) :
  Calls Try.prog 78 #[vl, .agg #[.bool (offOf l 0), .bool (offOf l 1), .bool (offOf l 2), .bool (offOf l 3), .bool (offOf l 4), .bool (offOf l 5)], .int .i64 next, .int .i64 0, .pointer (some ⟨g3, 0, none⟩), .pointer (some ⟨g2, 0, none⟩), .pointer (some ⟨g1, 0, none⟩), .pointer (some ⟨g4, 0, none⟩)] W (FP w0 jb mb g1 g2 g3 g4 A0 c0 lots A1 c1 samples spread A3 c3 labs vl l vo outs res ok W) := by
 have HFS := Aside0.mk (hs.below (below_alloc (Below.refl _ W) (.cells #[.bool (offOf l 0), .bool (offOf l 1), .bool (offOf l 2), .bool (offOf l 3), .bool (offOf l 4), .bool (offOf l 5)] 85)))
 have HL := Aside0.mk (Kd.R_below hr (below_alloc (Below.refl _ W) (.cells #[.bool (offOf l 0), .bool (offOf l 1), .bool (offOf l 2), .bool (offOf l 3), .bool (offOf l 4), .bool (offOf l 5)] 85)))
 have HF : Aside0 (Frame mb g2 vo vl W (W.alloc (.cells #[.bool (offOf l 0), .bool (offOf l 1), .bool (offOf l 2), .bool (offOf l 3), .bool (offOf l 4), .bool (offOf l 5)] 85))) := ⟨Frame.of_below (below_alloc (Below.refl _ _) _)⟩
 have HB9 := Aside0.mk (blk_new W (.cells #[.bool (offOf l 0), .bool (offOf l 1), .bool (offOf l 2), .bool (offOf l 3), .bool (offOf l 4), .bool (offOf l 5)] 85))
 have HFr := Aside0.mk hfr
 replace hok := Aside0.mk hok
 replace hres := Aside0.mk hres
 have e3 := (blk_cell HFS.out.b3 0).trans rfl
 clear hs hr hfr
 go_enter Try.func78, Try.ntmps78
 go_wp2_with (go_at_call 52; refine Aside0.out ?_)
 clear e3
 refine ⟨?_⟩
 generalize W.alloc (.cells #[.bool (offOf l 0), .bool (offOf l 1), .bool (offOf l 2), .bool (offOf l 3), .bool (offOf l 4), .bool (offOf l 5)] 85) = w1 at HFS HL HF HB9 ⊢
 refine (explain_any w0 jb mb A0 c0 lots A1 c1 samples spread A3 c3 labs (offOf l) w1 HFS.out.jw hok.out).mono ?_
 rintro e w2 ⟨rfl, hj2, hk2⟩
 obtain ⟨es, cc, hm, _⟩ := HFS.out.jw.map
 replace HL := Aside0.mk (R_kb HL.out hk2 rfl hm)
 replace HF := Aside0.mk (HF.out.trans (Frame.of_kb hk2 rfl) (Same.refl _ _) (Same.refl _ _))
 replace HFS := Aside0.mk (HFS.out.kb hj2 hk2)
 clear hj2 hk2 hm HB9
 cases hcan : canF lots samples spread labs (offOf l)
 ·obtain rfl : res = [] := by rw [hres.out, hcan]; rfl
  clear hcan hres
  go_wp2
  (try simp only [Exit.inBlock, Exit.then])
  refine bodyPost_ret (results_none rfl _ _ _) rfl ?_
  exact ⟨rfl, vo, by rw [List.append_nil]; exact HFS.out, HL.out, Same.refl _ _, HF.out⟩
 ·obtain rfl : res = [l] := by rw [hres.out, hcan]; rfl
  clear hcan hres
  go_wp2
  refine start_ (n := 6) (S := fun w' => w'.cell? ⟨g2, 0, none⟩ = some vo) (ds := [5]) #[false, false, false, false, false, false] (by kernel_rfl) rfl rfl ((blk_cell (blk_drew HFS.out.b2) 0).trans rfl) (fun hHeld => ?_)
  refine with_tabW fromT.tab3 fromT.bits3 (fun HT_ HW_ => ?_)
  replace HFS := Aside0.mk (HFS.out.below (below_drew1 (Below.refl _ _)))
  replace HL := Aside0.mk (Kd.R_below HL.out (below_drew1 (Below.refl _ _)))
  replace HF := Aside0.mk (HF.out.trans (Frame.of_below (below_drew1 (Below.refl _ _))) (Same.refl _ _) (Same.refl _ _))
  generalize w2.drew = w3 at HFS HL HF hHeld ⊢
  refine pure_ (i := 1) (N := some 20) (v := ?_) (a' := ?_) #[false, true, false, false, false, false] rfl rfl (any_of HT_.out (by kernel_rfl)) (fun _ _ _ h => h) (Or.inl ⟨by rfl, ?_⟩) ?_ ?_
  rotate_left
  ·intro w'
   go_simp
   with_reducible rfl
  rotate_left
  ·simp only [Act.put, List.setIfInBounds_toArray, List.set_cons_zero, List.set_cons_succ, i64_w, i32_w]
   rfl
  refine take_ (i := 0) (N := some 19) (v := ?_) (a' := ?_) #[true, true, false, false, false, false] rfl rfl (take_ofW HT_.out HW_.out (by kernel_rfl)) (fun _ _ _ h => h) (Or.inl ⟨by rfl, ?_⟩) hHeld ?_ ?_
  rotate_left
  ·intro w' s0
   go_simp
   with_reducible rfl
  rotate_left
  ·simp only [Act.put, List.setIfInBounds_toArray, List.set_cons_zero, List.set_cons_succ, i64_w, i32_w]
   rfl
  refine one_ (i := 2) (N := some 21) #[true, true, true, false, false, false] rfl rfl (one_of HT_.out (by kernel_rfl)) (by decide) (fun K hK => ?_)
  refine goes_ Try.func79 (by kernel_rfl) rfl #[vl] (by rfl) rfl rfl (by simp only [List.map_toArray, List.map_cons, List.map_nil]; rfl) ?_
  with_reducible refine (clone_any w0.heap.size (fun _ => True) vl l w3 HL.out (by omega)).mono ?_
  rintro e w4 ⟨vc, rfl, hvc, hb⟩
  obtain ⟨Ac, ccl, rfl⟩ := Kd.R_slice hvc
  refine ⟨_, rfl, ?_⟩
  have HLT : Aside0 (∀ k, w3.heap.size ≤ k → ok k) := ⟨fun k hk => HFr.out k (Nat.le_trans HF.out.size hk)⟩
  have HOT : Aside0 (∀ k, w3.heap.size ≤ k → some k ≠ vo.ownBlock) := ⟨fun k hk he => by have := Kd.R_lt HFS.out.out k he.symm; omega⟩
  have HS5 := Aside0.mk hb.size
  have HVC := Aside0.mk (Kd.R_lower (Kd.R_mono (Kd.R_bound hvc) (fun k hk => hk.2.1)) HFS.out.jw.hb.size)
  replace HL := Aside0.mk (Kd.R_below HL.out hb)
  replace HF := Aside0.mk (HF.out.trans (Frame.of_below hb) (Same.refl _ _) (Same.refl _ _))
  replace HFS := Aside0.mk (HFS.out.below hb)
  clear hvc hb
  refine hK.out _ _ (((blk_cell HFS.out.b2 0).trans rfl)) (fun hHeld => ?_)
  clear hK K
  refine norm_ (a' := ?_) ?_ ?_
  rotate_left
  ·show Act.put _ (some 21) _ = _
   simp only [Act.put, List.setIfInBounds_toArray, List.set_cons_zero, List.set_cons_succ, i64_w, i32_w]
   rfl
  refine one_ (i := 3) (N := some 22) #[true, true, true, true, false, false] rfl rfl (one_of HT_.out (by kernel_rfl)) (by decide) (fun K hK => ?_)
  refine value_ (w1 := ?_) (v := ?_) (by rfl) rfl ?_ ?_
  rotate_left 2
  ·go_simp
   constructor
   ·rfl
   ·rfl
  have HFS0 := Aside0.mk HFS.out
  replace HFS := Aside0.mk (HFS.out.below (below_alloc (Below.refl _ w4) (.cells #[.slice Ac l.length ccl] 23)))
  refine hK.out _ _ (((blk_cell HFS.out.b2 0).trans rfl)) (fun hHeld => ?_)
  clear hK K
  refine norm_ (a' := ?_) ?_ ?_
  rotate_left
  ·show Act.put _ (some 22) _ = _
   simp only [Act.put, List.setIfInBounds_toArray, List.set_cons_zero, List.set_cons_succ, i64_w, i32_w]
   rfl
  refine one_ (i := 4) (N := some 23) #[true, true, true, true, true, false] rfl rfl (one_of HT_.out (by kernel_rfl)) (by decide) (fun K hK => ?_)
  have hbs := HFS0.out.jw.hb.size
  refine Kd.R_append_step kll (w0 := w0) w0.heap.size (by rfl) (.tmp 19) (.tmp 22) 51 23 (.slice none 0 0) 24 rfl Try.underlying51 info23c rfl (by decide) (by omega) vo outs l [.slice Ac l.length ccl] ok (fun k => w3.heap.size ≤ k) rfl (by go_simp) ⟨_, rfl, HVC.out⟩ (fun k hk => ⟨HLT.out k hk, HOT.out k hk⟩) (fun k hk => HLT.out k (by have := HS5.out; omega)) HFS0.out.out HFS0.out.jw.hb hbs (by omega) ?_
  intro vo1 w6 hR6 hB6 hG6 hat6
  obtain ⟨Av1, nv1, cv1, rfl⟩ : ∃ A n c, vo1 = .slice A n c := by obtain ⟨A, c, h⟩ := Kd.R_slice hR6; exact ⟨A, _, c, h⟩
  have HG6 := Aside0.mk (HFS0.out.grown hG6 hB6 hR6)
  have HS6 : Aside0 (Same W vo (.slice Av1 nv1 cv1)) := ⟨by rcases hat6 with h | ⟨b, h1, h2⟩; exact .inl h; exact .inr ⟨b, h1, Nat.le_trans HF.out.size (by simpa using h2)⟩⟩
  have HF6 : Aside0 (Frame mb g2 vo vl W w6) := ⟨HF.out.trans ⟨hG6.size, fun k hk _ _ h3 _ => hG6.block k hk h3⟩ (Same.refl _ _) (Same.refl _ _)⟩
  replace HL := Aside0.mk (Kd.R_over' HL.out (Kd.R_typed HFS0.out.out) (by decide) hG6)
  clear hR6 hB6 hG6 hat6 HFS HF
  have q2 := (blk_cell HG6.out.1 0).trans rfl
  have z2 := blk_frozen HG6.out.1 0
  refine hK.out _ _ (q2) (fun hHeld => ?_)
  clear hK K
  refine norm_ (a' := ?_) ?_ ?_
  rotate_left
  ·show Act.put _ (some 23) _ = _
   simp only [Act.put, List.setIfInBounds_toArray, List.set_cons_zero, List.set_cons_succ, i64_w, i32_w]
   rfl
  refine last_ (i := 5) (N := none) #[true, true, true, true, true, true] rfl rfl (one_of HT_.out (by kernel_rfl)) (by decide) (fun K hK => ?_)
  refine skip_ (w1 := ?_) (by rfl) rfl ?_ ?_
  rotate_left
  ·go_simp
   rfl
  refine hK.out _ _ ?_
  clear hK K
  refine done_ (done_of HT_.out (by kernel_rfl)) ?_
  clear hHeld
  have HFin : Aside0 (FP w0 jb mb g1 g2 g3 g4 A0 c0 lots A1 c1 samples spread A3 c3 labs vl l vo outs [l] ok W (.returned (.tuple #[])) (w6.setCell ⟨g2, 0, none⟩ (.slice Av1 nv1 cv1))) := ⟨rfl, .slice Av1 nv1 cv1, HG6.out.2, R_cellT HL.out HG6.out.1 (by decide), HS6.out, ⟨by have := HF6.out.size; simpa using this, fun k hk h1 h2 h3 h4 => (Below.heap_setCell _ _ _ _ h2).trans (HF6.out.block k hk h1 h2 h3 h4)⟩⟩
  clear q2 z2
  go_wp2
  (try simp only [Exit.inBlock, Exit.then])
  refine bodyPost_ret (results_none rfl _ _ _) rfl ?_
  exact HFin.out
end Go.Proofs.Ytcpbhklaffgokaa.Q
namespace Go.Proofs.Ytcpbhklaffgokaa.Q
open Go.RowKit Go.Proofs.YtcpbhklaffgokaaW.PrintWords Go.Proofs.YtcpbhklaffgokaaW.PrintLast Go.Proofs.YtcpbhklaffgokaaW.PrintMore
set_option linter.unusedVariables false
set_option linter.unusedSimpArgs false
section
variable {P : Program} {ops : Array Oper} {Q : Exit → Act → World → Prop}
theorem goesV_ {oi : Oper} {N : Option Tmp} {a : Act} {w : World} {K : Act → World → Prop} {f : FuncId} {fn : Func} {aa : Array Operand} {ts : Array TypeId} {t : Tmp} {fr : Array Value} (hf : P.funcs[f]? = some fn) (hname : (fn.name == "runtime.NumGoroutine") = false) (hb : fn.body.isSome = true) (args : Array Value)
  (hw : Region.wanted oi (yielded ops a.tmps) = true) (hN : oi.dst = N) (hop : oi.op = .call { callee := .value (.tmp t), args := aa, argTypes := ts }) (hv : a.eval (.tmp t) = .func (.func f) #[] fr) (hargs : aa.map a.eval ++ fr = args)
  (h : Calls P f args w fun e w' => ∃ v, e = .returned v ∧ K (a.put N v) w') : if Region.wanted oi (yielded ops a.tmps) = true then Oper.wp P oi a w K Q else K (a.put N undef) w := by
 refine call_ f args hw hN ?_ h
 have he := enters_ hf hname hb args w
 unfold execOp
 simp [hop, resolve, Deferred.ofValue, invoke, hv, hargs, he]
theorem appendR_ {o : Oper} {a : Act} {W w1 : World} {v1 : Value} {Kc : Act → World → Prop} (hw : Region.wanted o (yielded ops a.tmps) = true) (s x : Operand) (t : TypeId) (v u : Value) (ho : o.op = .call { callee := .builtin .append, args := #[s, x], argTypes := #[t, t] }) (hs : a.eval s = v) (hx : a.eval x = u)
  (hr : (Builtin.append_ #[t, t] o.type #[v, u]).run P W = .ok v1 w1) (h : Kc (a.put o.dst v1) w1) : if Region.wanted o (yielded ops a.tmps) = true then Oper.wp P o a W Kc Q else Kc (a.put o.dst undef) W := by
 rw [if_pos hw]
 unfold Oper.wp execOp
 simp only [ho, resolve, invoke, builtin, Sem.run_bind, Sem.run_pure, Result.andThen_ok, List.map_toArray, List.map_cons, List.map_nil, hs, hx, hr]
 exact h
end
theorem app3P {W : World} {base : Nat} {ok : Nat → Prop} {v : Value} {l : List Int} (h : (Kd.int .i64).R 3 W base ok v l) (ga c : Nat) (k : Int) (hk : W.cell? ⟨ga, 0, none⟩ = some (.int .i64 k)) (hl : l.length ≤ 1000) (hb : base ≤ W.heap.size) :
  ∃ v' W', (Builtin.append_ #[23, 23] 23 #[v, .slice (some ⟨ga, 0, none⟩) 1 c]).run Try.prog W = .ok v' W' ∧ (Kd.int .i64).R 3 W' base (fun _ => True) v' (l ++ [k]) ∧ (Kd.int .i64).R 3 W' base ok v l ∧ W.grownBy W' v.ownBlock ∧ ((∃ A c', v = .slice A l.length c' ∧ v' = .slice A (l.length + 1) c') ∨ v'.ownBlock = some W.heap.size) := by
 obtain ⟨i, hi, he⟩ := Option.map_eq_some_iff.1 info3
 injection he with h1 he
 injection he with h2 h3
 exact app3 Try.underlying23 hi h1 h2 h3 rfl h ga c k hk hl hb
theorem FS.keep {w0 : World} {jb mb g1 g2 g3 g4 : Nat} {A0 : Option Addr} {c0 : Nat} {lots : List S46} {A1 : Option Addr} {c1 : Nat} {samples : List Int} {spread : Int} {A3 : Option Addr} {c3 : Nat} {labs : List S75} {vo vl : Value} {outs : List (List Int)} {l : List Int} {ok ok2 : Nat → Prop} {W W' : World} {base g : Nat} {cs : Array Value} (h : FS w0 jb mb g1 g2 g3 g4 A0 c0 lots A1 c1 samples spread A3 c3 labs vo outs ok W) (hr : Kd.R (Kd.int .i64) 3 W base ok2 vl l) (hf : Frame mb g2 vo vl W W') (hg : W.heap[g]? = some (.cells cs 85 (0, 0))) : W'.heap[g]? = some (.cells cs 85 (0, 0)) := by
 obtain ⟨es, c, hm, _⟩ := h.jw.map
 exact (hf.block g (blk_lt hg) (ne_map hg hm) (blk_ne hg h.b2 (by decide)) (Kd.R_ne h.out hg (by decide)) (Kd.R_ne hr hg (by decide))).trans hg
theorem FS.app {w0 : World} {jb mb g1 g2 g3 g4 : Nat} {A0 : Option Addr} {c0 : Nat} {lots : List S46} {A1 : Option Addr} {c1 : Nat} {samples : List Int} {spread : Int} {A3 : Option Addr} {c3 : Nat} {labs : List S75} {vo vl v1 : Value} {outs : List (List Int)} {l : List Int} {ok ok2 : Nat → Prop} {W W' : World} {k : Int} (h : FS w0 jb mb g1 g2 g3 g4 A0 c0 lots A1 c1 samples spread A3 c3 labs vo outs ok W) (hr : Kd.R (Kd.int .i64) 3 W w0.heap.size ok2 vl l) (hno : ∀ q, ok q → some q ≠ vl.ownBlock) (hg : W.grownBy W' vl.ownBlock)
  (hat : v1.ownBlock = vl.ownBlock ∨ v1.ownBlock = some W.heap.size) : FS w0 jb mb g1 g2 g3 g4 A0 c0 lots A1 c1 samples spread A3 c3 labs vo outs (fun q => ok q ∧ some q ≠ v1.ownBlock) W' := by
 obtain ⟨es, c, hm, _⟩ := h.jw.map
 have nm : some mb ≠ vl.ownBlock := by
  intro he
  obtain ⟨cells, hc⟩ := Kd.R_typed hr mb he.symm
  rw [hm] at hc
  cases hc
 refine ⟨h.jw.change (Below.grown h.jw.hb hg h.jw.hb.size (Kd.R_base hr)) (hg.block _ (blk_lt h.jw.blk) (Kd.R_ne hr h.jw.blk (by decide))) (hg.block _ (blk_lt hm) nm), (hg.block _ (blk_lt h.b1) (Kd.R_ne hr h.b1 (by decide))).trans h.b1, (hg.block _ (blk_lt h.b2) (Kd.R_ne hr h.b2 (by decide))).trans h.b2, (hg.block _ (blk_lt h.b3) (Kd.R_ne hr h.b3 (by decide))).trans h.b3, (hg.block _ (blk_lt h.b4) (Kd.R_ne hr h.b4 (by decide))).trans h.b4, ?_, h.l2⟩
 refine Kd.R_mono (Kd.R_grown (Kd.R_bound h.out) hg (fun q hq => hno q hq.1)) (fun q hq => ⟨hq.1, ?_⟩)
 rcases hat with e | e
 ·rw [e]; exact hno q hq.1
 ·rw [e]; intro e2; injection e2 with e2; have := hq.2.2.1; omega
theorem FS.mono {w0 : World} {jb mb g1 g2 g3 g4 : Nat} {A0 : Option Addr} {c0 : Nat} {lots : List S46} {A1 : Option Addr} {c1 : Nat} {samples : List Int} {spread : Int} {A3 : Option Addr} {c3 : Nat} {labs : List S75} {vo : Value} {outs : List (List Int)} {ok ok' : Nat → Prop} {W : World} (h : FS w0 jb mb g1 g2 g3 g4 A0 c0 lots A1 c1 samples spread A3 c3 labs vo outs ok W) (hk : ∀ q, ok q → ok' q) : FS w0 jb mb g1 g2 g3 g4 A0 c0 lots A1 c1 samples spread A3 c3 labs vo outs ok' W := ⟨h.jw, h.b1, h.b2, h.b3, h.b4, Kd.R_mono h.out hk, h.l2⟩
theorem FS.list {w0 : World} {jb mb g1 g2 g3 g4 : Nat} {A0 : Option Addr} {c0 : Nat} {lots : List S46} {A1 : Option Addr} {c1 : Nat} {samples : List Int} {spread : Int} {A3 : Option Addr} {c3 : Nat} {labs : List S75} {vo vl v1 : Value} {outs : List (List Int)} {l : List Int} {ok : Nat → Prop} {W W1 W' : World} {k : Int} (h : FS w0 jb mb g1 g2 g3 g4 A0 c0 lots A1 c1 samples spread A3 c3 labs vo outs ok W1) (hr : Kd.R (Kd.int .i64) 3 W1 w0.heap.size (fun _ => True) vl l) (hf : Frame mb g2 vo v1 W1 W') (hr1 : Kd.R (Kd.int .i64) 3 W' w0.heap.size (fun _ => True) v1 (l ++ [k]))
  (hat : (∃ A c', vl = .slice A l.length c' ∧ v1 = .slice A (l.length + 1) c') ∨ (v1.ownBlock = some W.heap.size ∧ ∀ q, vl.ownBlock = some q → q < W.heap.size)) : Kd.R (Kd.int .i64) 3 W' w0.heap.size (fun _ => True) vl l := by
 obtain ⟨es, c, hm, _⟩ := h.jw.map
 rcases hat with ⟨A, c', rfl, rfl⟩ | ⟨e1, e2⟩
 ·have ht := Kd.R_take hr1 (m := l.length) (by simp)
  rwa [List.take_left'] at ht
  rfl
 ·refine Kd.R_of_own (own_move (Kd.own_of_R hr) (fun q hq => ?_)) (fun _ _ => trivial)
  obtain ⟨cells, hc⟩ := Kd.R_typed hr q hq
  exact hf.block q (blk_lt hc) (ne_map hc hm) (blk_ne hc h.b2 (by decide)) (Kd.R_ne h.out hc (by decide)) (by rw [e1]; intro e3; injection e3 with e3; have := e2 q hq; omega)
def fromN.T9 : Bool × List (List Nat × List Nat) := (true, [([], []), ([], []), ([], []), ([2], [2]), ([1, 3], [1, 3]), ([], []), ([], []), ([6], [6]), ([], []), ([8], [8]), ([0, 4, 5, 7, 9, 4], [0, 4, 5, 7, 9])])
def fromN.B9 : List Nat := [0, 0, 0, 4, 14, 0, 0, 64, 0, 256, 1023]
theorem fromN.tab9 : rtab .any (opsOf Try.f78 9) = fromN.T9 := by kernel_rfl
theorem fromN.bits9 : waitsOk fromN.T9.2 fromN.B9 = true := by kernel_rfl
def FromOk (w0 : World) (jb mb g1 g2 g3 g4 : Nat) (A0 : Option Addr) (c0 : Nat) (lots : List S46) (A1 : Option Addr) (c1 : Nat) (samples : List Int) (spread : Int) (A3 : Option Addr) (c3 : Nat) (labs : List S75) (m : Nat) : Prop := ∀ (vl : Value) (l : List Int) (vo : Value) (outs : List (List Int)) (ni mi : Int) (next : Nat) (W : World) (ok : Nat → Prop), mi = m → ni = next → next ≤ labs.length → l.length + m ≤ 6 → outs.length + 6 ^ m ≤ 1000000 →
 (∀ k, W.heap.size ≤ k → ok k) → (∀ k, ok k → some k ≠ vl.ownBlock) → FS w0 jb mb g1 g2 g3 g4 A0 c0 lots A1 c1 samples spread A3 c3 labs vo outs ok W → Kd.R (Kd.int .i64) 3 W w0.heap.size (fun _ => True) vl l →
 Calls Try.prog 78 #[vl, .agg #[.bool (offOf l 0), .bool (offOf l 1), .bool (offOf l 2), .bool (offOf l 3), .bool (offOf l 4), .bool (offOf l 5)], .int .i64 ni, .int .i64 mi, .pointer (some ⟨g3, 0, none⟩), .pointer (some ⟨g2, 0, none⟩), .pointer (some ⟨g1, 0, none⟩), .pointer (some ⟨g4, 0, none⟩)] W (FP w0 jb mb g1 g2 g3 g4 A0 c0 lots A1 c1 samples spread A3 c3 labs vl l vo outs (fromF (fun l => canF lots samples spread labs (offOf l)) labs.length m l next) ok W)
set_option maxHeartbeats 8000000 in
set_option maxRecDepth 100000 in
theorem from_succ (w0 : World) (jb mb g1 g2 g3 g4 : Nat) (A0 : Option Addr) (c0 : Nat) (lots : List S46) (A1 : Option Addr) (c1 : Nat) (samples : List Int) (spread : Int) (A3 : Option Addr) (c3 : Nat) (labs : List S75) (hok : RoundOk lots samples spread labs) (m : Nat) (ih : FromOk w0 jb mb g1 g2 g3 g4 A0 c0 lots A1 c1 samples spread A3 c3 labs m) : FromOk w0 jb mb g1 g2 g3 g4 A0 c0 lots A1 c1 samples spread A3 c3 labs (m + 1) := by
 intro vl l vo outs ni mi next W ok hmi hni hn hlm ho hfr hno hs hr
 have b6 := hok.b6
 have hP : 6 ^ m ≤ 46656 := by have : (6 : Nat) ^ m ≤ 6 ^ 6 := Nat.pow_le_pow_right (by omega) (by omega); omega
 have hP1 : (6 : Nat) ^ (m + 1) = 6 * 6 ^ m := by rw [Nat.pow_succ, Nat.mul_comm]
 rw [hP1] at ho
 clear hP1
 generalize hpw : (6 : Nat) ^ m = pw at ho hP
 have HPw := Aside0.mk hpw
 clear hpw
 have HMi := Aside0.mk hmi
 have HNi := Aside0.mk hni
 have hne : (mi == 0) = false := by rw [beq_eq_false_iff_ne]; omega
 have hm0 : 0 < mi := by omega
 have hm6 : mi ≤ 6 := by omega
 have hn0 : 0 ≤ ni := by omega
 have hn6 : ni ≤ labs.length := by omega
 clear hmi hni
 have HIH := Aside0.mk ih
 have HFr := Aside0.mk hfr
 have HNo := Aside0.mk hno
 have HFS := Aside0.mk (hs.below (below_alloc (Below.refl _ W) (.cells #[.bool (offOf l 0), .bool (offOf l 1), .bool (offOf l 2), .bool (offOf l 3), .bool (offOf l 4), .bool (offOf l 5)] 85)))
 have HL := Aside0.mk (Kd.R_below hr (below_alloc (Below.refl _ W) (.cells #[.bool (offOf l 0), .bool (offOf l 1), .bool (offOf l 2), .bool (offOf l 3), .bool (offOf l 4), .bool (offOf l 5)] 85)))
 have HF : Aside0 (Frame mb g2 vo vl W (W.alloc (.cells #[.bool (offOf l 0), .bool (offOf l 1), .bool (offOf l 2), .bool (offOf l 3), .bool (offOf l 4), .bool (offOf l 5)] 85))) := ⟨Frame.of_below (below_alloc (Below.refl _ _) _)⟩
 have B9 := Aside0.mk (blk_new W (.cells #[.bool (offOf l 0), .bool (offOf l 1), .bool (offOf l 2), .bool (offOf l 3), .bool (offOf l 4), .bool (offOf l 5)] 85))
 replace hok := Aside0.mk hok
 clear hs hr hfr hno ih
 go_enter Try.func78, Try.ntmps78
 go_wp2_with fail
 generalize W.alloc (.cells #[.bool (offOf l 0), .bool (offOf l 1), .bool (offOf l 2), .bool (offOf l 3), .bool (offOf l 4), .bool (offOf l 5)] 85) = w1 at HFS HL HF B9 ⊢
 have HW := Aside0.mk (Nat.le_refl W.heap.size)
 generalize hg9 : W.heap.size = g9 at B9 ⊢
 replace hg9 := Aside0.mk hg9
 go_loopw [12] (fun q wr => ∃ (k : Int) (vk : Value) (os : List (List Int)), ni ≤ k ∧ k ≤ labs.length ∧ q = .int .i64 k ∧ Aside0 (os = outs ++ fromK (fun l => canF lots samples spread labs (offOf l)) labs.length m l next k.toNat) ∧ Aside0 (FS w0 jb mb g1 g2 g3 g4 A0 c0 lots A1 c1 samples spread A3 c3 labs vk os ok wr) ∧ Aside0 (Kd.R (Kd.int .i64) 3 wr w0.heap.size (fun _ => True) vl l) ∧ Aside0 (Same W vo vk) ∧ Aside0 (Frame mb g2 vo vl W wr) ∧ Aside0 (wr.heap[g9]? = some (.cells #[.bool (offOf l 0), .bool (offOf l 1), .bool (offOf l 2), .bool (offOf l 3), .bool (offOf l 4), .bool (offOf l 5)] 85 (0, 0)))) (fun q _ => labs.length - (intOf q).toNat)
 case atStart => exact ⟨ni, vo, outs, by omega, by omega, rfl, ⟨by rw [HNi.out, Int.toNat_natCast, fromK_start, List.append_nil]⟩, HFS, HL, ⟨Same.refl _ _⟩, HF, B9⟩
 case round =>
  obtain ⟨k, vk, os, hk0, hk1, rfl, HO, HFS, HL, HS, HF, B9⟩ := hrel
  have e1 := (blk_cell HFS.out.b1 0).trans rfl
  have e2 := HFS.out.jw.at.cells.2.2.2.1
  by_cases hlt : k < labs.length
  ·obtain ⟨q0, q1, q2, q3, q4, q5⟩ := cells6 B9.out
   have hset := push_set l k.toNat (by omega)
   rw [Int.toNat_of_nonneg (by omega)] at hset
   have k13 : (wr.alloc (.cells #[.bool (offOf l 0), .bool (offOf l 1), .bool (offOf l 2), .bool (offOf l 3), .bool (offOf l 4), .bool (offOf l 5)] 85)).cell? ⟨wr.heap.size, k.toNat, none⟩ = some (.bool (offOf l k.toNat)) := (blk_cell (blk_new wr _) k.toNat).trans (off_at (offOf l) k.toNat (by omega))
   have z13 : (wr.alloc (.cells #[.bool (offOf l 0), .bool (offOf l 1), .bool (offOf l 2), .bool (offOf l 3), .bool (offOf l 4), .bool (offOf l 5)] 85)).frozen? ⟨wr.heap.size, k.toNat, none⟩ = false := blk_frozen (blk_new wr _) k.toNat
   have HSz := Aside0.mk (Nat.le_refl wr.heap.size)
   have B13 := Aside0.mk (blk_new wr (.cells #[.bool (offOf (l ++ [k]) 0), .bool (offOf (l ++ [k]) 1), .bool (offOf (l ++ [k]) 2), .bool (offOf (l ++ [k]) 3), .bool (offOf (l ++ [k]) 4), .bool (offOf (l ++ [k]) 5)] 85))
   have B9n := Aside0.mk (blk_alloc B9.out (.cells #[.bool (offOf (l ++ [k]) 0), .bool (offOf (l ++ [k]) 1), .bool (offOf (l ++ [k]) 2), .bool (offOf (l ++ [k]) 3), .bool (offOf (l ++ [k]) 4), .bool (offOf (l ++ [k]) 5)] 85))
   have HLn := Aside0.mk (Kd.R_below HL.out (below_alloc (Below.refl _ wr) (.cells #[.bool (offOf (l ++ [k]) 0), .bool (offOf (l ++ [k]) 1), .bool (offOf (l ++ [k]) 2), .bool (offOf (l ++ [k]) 3), .bool (offOf (l ++ [k]) 4), .bool (offOf (l ++ [k]) 5)] 85)))
   have HFn := Aside0.mk (HF.out.trans (Frame.of_below (below_alloc (Below.refl _ wr) (.cells #[.bool (offOf (l ++ [k]) 0), .bool (offOf (l ++ [k]) 1), .bool (offOf (l ++ [k]) 2), .bool (offOf (l ++ [k]) 3), .bool (offOf (l ++ [k]) 4), .bool (offOf (l ++ [k]) 5)] 85))) HS.out (Same.refl _ _))
   have HFSn := Aside0.mk (HFS.out.below (below_alloc (Below.refl _ wr) (.cells #[.bool (offOf (l ++ [k]) 0), .bool (offOf (l ++ [k]) 1), .bool (offOf (l ++ [k]) 2), .bool (offOf (l ++ [k]) 3), .bool (offOf (l ++ [k]) 4), .bool (offOf (l ++ [k]) 5)] 85)))
   have hwk : wrap64 (k + 1) = k + 1 := by unfold wrap64; omega
   have hwm : wrap64 (mi - 1) = mi - 1 := by unfold wrap64; omega
   have HLen : Aside0 (os.length + pw ≤ 1000000) := ⟨by
    have h1 := fromK_length (fun l => canF lots samples spread labs (offOf l)) labs.length m b6 l next k.toNat
    rw [HPw.out] at h1
    have h2 : (k.toNat - next) * pw ≤ 5 * pw := Nat.mul_le_mul_right _ (by have := HNi.out; omega)
    rw [HO.out, List.length_append]
    omega⟩
   go_wp2
   clear hset k13 z13 q0 q1 q2 q3 q4 q5 e1 e2 HFS HL HF B9
   generalize hg13 : wr.heap.size = g13 at B13 ⊢
   replace hg13 := Aside0.mk hg13
   generalize wr.alloc (.cells #[.bool (offOf (l ++ [k]) 0), .bool (offOf (l ++ [k]) 1), .bool (offOf (l ++ [k]) 2), .bool (offOf (l ++ [k]) 3), .bool (offOf (l ++ [k]) 4), .bool (offOf (l ++ [k]) 5)] 85) = w2 at B13 B9n HLn HFn HFSn ⊢
   have HFS := HFSn
   have HL := HLn
   have HF := HFn
   have B9 := B9n
   clear HFSn HLn HFn B9n
   refine start_ (n := 11) (S := fun w' => w'.cell? ⟨g4, 0, none⟩ = some (.func (.func 78) #[] #[.pointer (some ⟨g3, 0, none⟩), .pointer (some ⟨g2, 0, none⟩), .pointer (some ⟨g1, 0, none⟩), .pointer (some ⟨g4, 0, none⟩)]) ∧ w'.cell? ⟨g13, 0, none⟩ = some (.bool (offOf (l ++ [k]) 0)) ∧ w'.cell? ⟨g13, 1, none⟩ = some (.bool (offOf (l ++ [k]) 1)) ∧ w'.cell? ⟨g13, 2, none⟩ = some (.bool (offOf (l ++ [k]) 2)) ∧ w'.cell? ⟨g13, 3, none⟩ = some (.bool (offOf (l ++ [k]) 3)) ∧ w'.cell? ⟨g13, 4, none⟩ = some (.bool (offOf (l ++ [k]) 4)) ∧ w'.cell? ⟨g13, 5, none⟩ = some (.bool (offOf (l ++ [k]) 5))) (ds := []) #[false, false, false, false, false, false, false, false, false, false, false] (by kernel_rfl) rfl rfl ⟨((blk_cell (blk_drew HFS.out.b4) 0).trans rfl), (cells6 (blk_drew B13.out)).1, (cells6 (blk_drew B13.out)).2.1, (cells6 (blk_drew B13.out)).2.2.1, (cells6 (blk_drew B13.out)).2.2.2.1, (cells6 (blk_drew B13.out)).2.2.2.2.1, (cells6 (blk_drew B13.out)).2.2.2.2.2⟩ (fun hHeld => ?_)
   refine with_tabW fromN.tab9 fromN.bits9 (fun HT_ HW_ => ?_)
   replace HFS := Aside0.mk (HFS.out.below (below_drew1 (Below.refl _ _)))
   replace HL := Aside0.mk (Kd.R_below HL.out (below_drew1 (Below.refl _ _)))
   replace HF := Aside0.mk (HF.out.trans (Frame.of_below (below_drew1 (Below.refl _ _))) (Same.refl _ _) (Same.refl _ _))
   replace B13 := Aside0.mk (blk_drew B13.out)
   replace B9 := Aside0.mk (blk_drew B9.out)
   generalize w2.drew = w3 at HFS HL HF B13 B9 hHeld ⊢
   refine pure_ (i := 1) (N := some 39) (v := ?_) (a' := ?_) #[false, true, false, false, false, false, false, false, false, false, false] rfl rfl (any_of HT_.out (by kernel_rfl)) (fun _ _ _ h => h) (Or.inl ⟨by rfl, ?_⟩) ?_ ?_
   rotate_left
   ·intro w'
    go_simp
    with_reducible rfl
   rotate_left
   ·simp only [Act.put, List.setIfInBounds_toArray, List.set_cons_zero, List.set_cons_succ, i64_w, i32_w]
    rfl
   refine pure_ (i := 2) (N := some 40) (v := ?_) (a' := ?_) #[false, true, true, false, false, false, false, false, false, false, false] rfl rfl (any_of HT_.out (by kernel_rfl)) (fun _ _ _ h => h) (Or.inl ⟨by rfl, ?_⟩) ?_ ?_
   rotate_left
   ·intro w'
    go_simp
    with_reducible rfl
   rotate_left
   ·simp only [Act.put, List.setIfInBounds_toArray, List.set_cons_zero, List.set_cons_succ, i64_w, i32_w]
    rfl
   refine pure_ (i := 6) (N := some 44) (v := ?_) (a' := ?_) #[false, true, true, false, false, false, true, false, false, false, false] rfl rfl (any_of HT_.out (by kernel_rfl)) (fun _ _ _ h => h) (Or.inl ⟨by rfl, ?_⟩) ?_ ?_
   rotate_left
   ·intro w'
    go_simp
    with_reducible rfl
   rotate_left
   ·simp only [Act.put, List.setIfInBounds_toArray, List.set_cons_zero, List.set_cons_succ, i64_w, i32_w]
    rfl
   refine pure_ (i := 7) (N := some 45) (v := ?_) (a' := ?_) #[false, true, true, false, false, false, true, true, false, false, false] rfl rfl (any_of HT_.out (by kernel_rfl)) (fun _ _ _ h => h) (Or.inl ⟨by rfl, ?_⟩) ?_ ?_
   rotate_left
   ·intro w'
    go_simp
    with_reducible rfl
   rotate_left
   ·simp only [Act.put, List.setIfInBounds_toArray, List.set_cons_zero, List.set_cons_succ, i64_w, i32_w]
    rfl
   refine pure_ (i := 8) (N := some 46) (v := ?_) (a' := ?_) #[false, true, true, false, false, false, true, true, true, false, false] rfl rfl (any_of HT_.out (by kernel_rfl)) (fun _ _ _ h => h) (Or.inl ⟨by rfl, ?_⟩) ?_ ?_
   rotate_left
   ·intro w'
    go_simp
    with_reducible rfl
   rotate_left
   ·simp only [Act.put, List.setIfInBounds_toArray, List.set_cons_zero, List.set_cons_succ, i64_w, i32_w]
    rfl
   refine pure_ (i := 9) (N := some 47) (v := ?_) (a' := ?_) #[false, true, true, false, false, false, true, true, true, true, false] rfl rfl (any_of HT_.out (by kernel_rfl)) (fun _ _ _ h => h) (Or.inl ⟨by rfl, ?_⟩) ?_ ?_
   rotate_left
   ·intro w'
    go_simp
    with_reducible rfl
   rotate_left
   ·simp only [Act.put, List.setIfInBounds_toArray, List.set_cons_zero, List.set_cons_succ, i64_w, i32_w]
    rfl
   refine take_ (i := 0) (N := some 38) (v := ?_) (a' := ?_) #[true, true, true, false, false, false, true, true, true, true, false] rfl rfl (take_ofW HT_.out HW_.out (by kernel_rfl)) (fun _ _ _ h => h) (Or.inl ⟨by rfl, ?_⟩) hHeld ?_ ?_
   rotate_left
   ·rintro w' ⟨s0, s1, s2, s3, s4, s5, s6⟩
    go_simp
    with_reducible rfl
   rotate_left
   ·simp only [Act.put, List.setIfInBounds_toArray, List.set_cons_zero, List.set_cons_succ, i64_w, i32_w]
    rfl
   refine take_ (i := 5) (N := some 43) (v := ?_) (a' := ?_) #[true, true, true, false, false, true, true, true, true, true, false] rfl rfl (take_ofW HT_.out HW_.out (by kernel_rfl)) (fun _ _ _ h => h) (Or.inl ⟨by rfl, ?_⟩) hHeld ?_ ?_
   rotate_left
   ·rintro w' ⟨s0, s1, s2, s3, s4, s5, s6⟩
    go_simp
    with_reducible rfl
   rotate_left
   ·simp only [Act.put, List.setIfInBounds_toArray, List.set_cons_zero, List.set_cons_succ, i64_w, i32_w]
    rfl
   refine one_ (i := 3) (N := some 41) #[true, true, true, true, false, true, true, true, true, true, false] rfl rfl (one_of HT_.out (by kernel_rfl)) (by decide) (fun K hK => ?_)
   refine value_ (w1 := ?_) (v := ?_) (by rfl) rfl ?_ ?_
   rotate_left 2
   ·go_simp
    constructor
    ·rfl
    ·rfl
   have hk3 : (w3.alloc (.cells #[.int .i64 k] 3)).cell? ⟨w3.heap.size, 0, none⟩ = some (.int .i64 k) := (blk_cell (blk_new w3 (.cells #[.int .i64 k] 3)) 0).trans rfl
   replace B13 := Aside0.mk (blk_alloc B13.out (.cells #[.int .i64 k] 3))
   replace B9 := Aside0.mk (blk_alloc B9.out (.cells #[.int .i64 k] 3))
   replace HL := Aside0.mk (Kd.R_below HL.out (below_alloc (Below.refl _ w3) (.cells #[.int .i64 k] 3)))
   replace HF := Aside0.mk (HF.out.trans (Frame.of_below (below_alloc (Below.refl _ w3) (.cells #[.int .i64 k] 3))) (Same.refl _ _) (Same.refl _ _))
   replace HFS := Aside0.mk (HFS.out.below (below_alloc (Below.refl _ w3) (.cells #[.int .i64 k] 3)))
   replace hk3 := Aside0.mk hk3
   generalize hg3 : w3.heap.size = q3 at hk3 ⊢
   generalize w3.alloc (.cells #[.int .i64 k] 3) = w4 at hk3 B13 B9 HL HF HFS ⊢
   refine hK.out _ _ ⟨((blk_cell HFS.out.b4 0).trans rfl), (cells6 B13.out).1, (cells6 B13.out).2.1, (cells6 B13.out).2.2.1, (cells6 B13.out).2.2.2.1, (cells6 B13.out).2.2.2.2.1, (cells6 B13.out).2.2.2.2.2⟩ (fun hHeld => ?_)
   clear hK K
   refine norm_ (a' := ?_) ?_ ?_
   rotate_left
   ·show Act.put _ (some 41) _ = _
    simp only [Act.put, List.setIfInBounds_toArray, List.set_cons_zero, List.set_cons_succ, i64_w, i32_w]
    rfl
   refine one_ (i := 4) (N := some 42) #[true, true, true, true, true, true, true, true, true, true, false] rfl rfl (one_of HT_.out (by kernel_rfl)) (by decide) (fun K hK => ?_)
   have hbs := HFS.out.jw.hb.size
   obtain ⟨v5, w5, hap, hv5, hl5, hg5, hat5⟩ := app3P HL.out q3 1 k hk3.out (by omega) HFS.out.jw.hb.size
   obtain ⟨A5, n5, c5, rfl⟩ : ∃ A n c, v5 = .slice A n c := by obtain ⟨A, c, h⟩ := Kd.R_slice hv5; exact ⟨A, _, c, h⟩
   have HAT : Aside0 (((∃ A c', vl = .slice A l.length c' ∧ (.slice A5 n5 c5 : Value) = .slice A (l.length + 1) c') ∨ ((.slice A5 n5 c5 : Value).ownBlock = some w4.heap.size ∧ ∀ q, vl.ownBlock = some q → q < w4.heap.size))) := ⟨hat5.imp id (fun e => ⟨e, Kd.R_lt HL.out⟩)⟩
   have HAO : (.slice A5 n5 c5 : Value).ownBlock = vl.ownBlock ∨ (.slice A5 n5 c5 : Value).ownBlock = some w4.heap.size := by rcases hat5 with ⟨A, c', h1, h2⟩ | h; exact .inl (by rw [h1, h2]; cases A <;> rfl); exact .inr h
   have HSl : Aside0 (Same W vl (.slice A5 n5 c5)) := ⟨HAO.imp id (fun e => ⟨_, e, HF.out.size⟩)⟩
   have HFS5 := Aside0.mk (HFS.out.app (k := k) HL.out HNo.out hg5 HAO)
   have HL5 := Aside0.mk hl5
   have HV5 := Aside0.mk hv5
   have B13a := Aside0.mk ((hg5.block _ (blk_lt B13.out) (Kd.R_ne HL.out B13.out (by decide))).trans B13.out)
   have B9a := Aside0.mk ((hg5.block _ (blk_lt B9.out) (Kd.R_ne HL.out B9.out (by decide))).trans B9.out)
   have HF5 : Aside0 (Frame mb g2 vo vl W w5) := ⟨HF.out.trans ⟨hg5.size, fun q hq _ _ _ h4 => hg5.block q hq h4⟩ HS.out (Same.refl _ _)⟩
   clear hat5 hv5 hl5 hg5 HAO
   refine appendR_ (by rfl) (.tmp 39) (.tmp 41) 23 vl (.slice (some ⟨q3, 0, none⟩) 1 1) rfl (by go_simp) (by go_simp) hap ?_
   clear hap HFS HL HF B13 B9
   have HFS := HFS5
   have HL := HL5
   have HF := HF5
   have B13 := B13a
   have B9 := B9a
   clear HFS5 HL5 HF5 B13a B9a
   refine hK.out _ _ ⟨((blk_cell HFS.out.b4 0).trans rfl), (cells6 B13.out).1, (cells6 B13.out).2.1, (cells6 B13.out).2.2.1, (cells6 B13.out).2.2.2.1, (cells6 B13.out).2.2.2.2.1, (cells6 B13.out).2.2.2.2.2⟩ (fun hHeld => ?_)
   clear hK K
   refine norm_ (a' := ?_) ?_ ?_
   rotate_left
   ·show Act.put _ (some 42) _ = _
    simp only [Act.put, List.setIfInBounds_toArray, List.set_cons_zero, List.set_cons_succ, i64_w, i32_w]
    rfl
   refine one_ (i := 10) (N := some 48) #[true, true, true, true, true, true, true, true, true, true, true] rfl rfl (one_of HT_.out (by kernel_rfl)) (by decide) (fun K hK => ?_)
   have hbs := HFS.out.jw.hb.size
   have HCh := Aside0.mk (HIH.out (.slice A5 n5 c5) (l ++ [k]) vk os (k + 1) (mi - 1) (k.toNat + 1) w5 (fun q => ok q ∧ some q ≠ (Value.slice A5 n5 c5).ownBlock) (by have := HMi.out; omega) (by omega) (by omega) (by simp; omega) (by rw [HPw.out]; exact HLen.out) (fun q hq => ⟨HFr.out q (Nat.le_trans HF.out.size hq), fun e => by have := Kd.R_lt HV5.out q e.symm; omega⟩) (fun q hq => hq.2) HFS.out HV5.out)
   refine goesV_ Try.func78 (by kernel_rfl) rfl #[.slice A5 n5 c5, .agg #[.bool (offOf (l ++ [k]) 0), .bool (offOf (l ++ [k]) 1), .bool (offOf (l ++ [k]) 2), .bool (offOf (l ++ [k]) 3), .bool (offOf (l ++ [k]) 4), .bool (offOf (l ++ [k]) 5)], .int .i64 (k + 1), .int .i64 (mi - 1), .pointer (some ⟨g3, 0, none⟩), .pointer (some ⟨g2, 0, none⟩), .pointer (some ⟨g1, 0, none⟩), .pointer (some ⟨g4, 0, none⟩)] (by rfl) rfl rfl (by rfl) (by go_simp) ?_
   with_reducible refine HCh.out.mono ?_
   rintro e w6 ⟨rfl, v6, hfs6, hv6, hs6, hf6⟩
   refine ⟨_, rfl, ?_⟩
   have HO6 : Aside0 (os ++ fromF (fun l => canF lots samples spread labs (offOf l)) labs.length m (l ++ [k]) (k.toNat + 1) = outs ++ fromK (fun l => canF lots samples spread labs (offOf l)) labs.length m l next (k + 1).toNat) := ⟨by rw [HO.out, show (k + 1).toNat = k.toNat + 1 by omega, fromK_step _ _ _ _ _ _ (by have := HNi.out; omega), Int.toNat_of_nonneg (by omega), List.append_assoc]⟩
   have HL6 := Aside0.mk (HFS.out.list HL.out hf6 hv6 HAT.out)
   have HS6 := Aside0.mk (HS.out.trans hs6 HF.out.size)
   have HF6 := Aside0.mk (HF.out.trans hf6 HS.out HSl.out)
   have B96 := Aside0.mk (HFS.out.keep HV5.out hf6 B9.out)
   replace B13 := Aside0.mk (HFS.out.keep HV5.out hf6 B13.out)
   have HFS6 := Aside0.mk (hfs6.mono (fun q hq => hq.1))
   clear HFS hfs6 hv6 hs6 hf6
   have HFS := HFS6
   clear HFS6
   refine hK.out _ _ ⟨((blk_cell HFS.out.b4 0).trans rfl), (cells6 B13.out).1, (cells6 B13.out).2.1, (cells6 B13.out).2.2.1, (cells6 B13.out).2.2.2.1, (cells6 B13.out).2.2.2.2.1, (cells6 B13.out).2.2.2.2.2⟩ (fun hHeld => ?_)
   clear hK K
   refine norm_ (a' := ?_) ?_ ?_
   rotate_left
   ·show Act.put _ (some 48) _ = _
    simp only [Act.put, List.setIfInBounds_toArray, List.set_cons_zero, List.set_cons_succ, i64_w, i32_w]
    rfl
   refine done_ (done_of HT_.out (by kernel_rfl)) ?_
   clear hHeld
   go_wp2
   exact ⟨⟨k + 1, _, _, by omega, by omega, rfl, HO6, HFS, HL6, HS6, HF6, B96⟩, by simp only [intOf]; omega⟩
  ·obtain rfl : k = labs.length := by omega
   have HFin : Aside0 (FP w0 jb mb g1 g2 g3 g4 A0 c0 lots A1 c1 samples spread A3 c3 labs vl l vo outs (fromF (fun l => canF lots samples spread labs (offOf l)) labs.length (m + 1) l next) ok W (.returned (.tuple #[])) wr) := ⟨rfl, vk, by have h := HO.out; rw [Int.toNat_natCast, fromK_end] at h; rw [← h]; exact HFS.out, HL.out, HS.out, HF.out⟩
   clear HO
   go_wp2
   (try simp only [Exit.inBlock, Exit.then])
   refine bodyPost_ret (results_none rfl _ _ _) rfl ?_
   exact HFin.out
theorem from_any (w0 : World) (jb mb g1 g2 g3 g4 : Nat) (A0 : Option Addr) (c0 : Nat) (lots : List S46) (A1 : Option Addr) (c1 : Nat) (samples : List Int) (spread : Int) (A3 : Option Addr) (c3 : Nat) (labs : List S75) (hok : RoundOk lots samples spread labs) : ∀ m, FromOk w0 jb mb g1 g2 g3 g4 A0 c0 lots A1 c1 samples spread A3 c3 labs m := by
 intro m
 induction m with
 | zero =>
  intro vl l vo outs ni mi next W ok hmi hni hn hlm ho hfr hno hs hr
  subst hmi
  subst hni
  exact from_zero _ _ _ _ _ _ _ _ _ _ _ _ _ _ _ _ _ hok vl l vo outs next W (by omega) (by simpa using ho) ok hfr hs hr _ rfl
 | succ m ih => exact from_succ _ _ _ _ _ _ _ _ _ _ _ _ _ _ _ _ _ hok m ih
end Go.Proofs.Ytcpbhklaffgokaa.Q
namespace Go.Proofs.Ytcpbhklaffgokaa.Q
open Go.RowKit Go.Proofs.YtcpbhklaffgokaaW.PrintWords Go.Proofs.YtcpbhklaffgokaaW.PrintLast Go.Proofs.YtcpbhklaffgokaaW.PrintMore
set_option linter.unusedVariables false
set_option linter.unusedSimpArgs false
theorem results_cell1 {P : Program} {fn : Func} {p : Tmp} {ty e : TypeId} (h : fn.results = #[.cell p ty]) (tmps : Array Value) (w : World) (g : Nat) (v : Value) (hp : tmps.getD p undef = .pointer (some ⟨g, 0, none⟩)) (hc : w.cell? ⟨g, 0, none⟩ = some v) (hu : P.underlying ty = some (.slice e)) : (results fn tmps).run P w = .ok v w := by
 have hp' : tmps[p]?.getD undef = .pointer (some ⟨g, 0, none⟩) := by simpa using hp
 simp [results, h, hp', asAddr, loadVar, isAgg, run_underlying hu, hc]
def fewK (can : List Int → Bool) (n : Nat) : Nat → List (List Int)
 | 0 => []
 | k + 1 => if (fewK can n k).length = 0 then fromF can n k [] 0 else fewK can n k
def fewestF (lots : List S46) (samples : List Int) (spread : Int) (labs : List S75) : List (List Int) := fewK (fun l => canF lots samples spread labs (offOf l)) labs.length (labs.length + 1)
theorem fewK_stays (can : List Int → Bool) (n k : Nat) (h : (fewK can n k).length ≠ 0) : ∀ m, k ≤ m → fewK can n m = fewK can n k := by
 intro m hm
 induction m with
 | zero => rw [show k = 0 by omega]
 | succ m ih =>
  by_cases e : k = m + 1
  ·rw [e]
  ·have := ih (by omega)
   simp only [fewK]
   rw [this, if_neg h]
theorem fewK_length (can : List Int → Bool) (n : Nat) (hn : n ≤ 6) : ∀ k, k ≤ 7 → (fewK can n k).length ≤ 46656 := by
 intro k
 induction k with
 | zero => intro _; simp [fewK]
 | succ k ih =>
  intro hk
  simp only [fewK]
  split
  ·have h1 := fromF_length can n hn k [] 0
   have : (6 : Nat) ^ k ≤ 6 ^ 6 := Nat.pow_le_pow_right (by omega) (by omega)
   omega
  ·exact ih (by omega)
def FewPost (w0 : World) (jb mb : Nat) (A0 : Option Addr) (c0 : Nat) (lots : List S46) (A1 : Option Addr) (c1 : Nat) (samples : List Int) (spread : Int) (A3 : Option Addr) (c3 : Nat) (labs : List S75) (e : Ending) (W' : World) : Prop :=
 ∃ v, e = .returned v ∧ JW w0 jb mb A0 c0 lots A1 c1 samples spread A3 c3 labs W' ∧ Kd.R kll 23 W' w0.heap.size (fun _ => True) v (fewestF lots samples spread labs)
theorem FS.put {w0 : World} {jb mb g1 g2 g3 g4 : Nat} {A0 : Option Addr} {c0 : Nat} {lots : List S46} {A1 : Option Addr} {c1 : Nat} {samples : List Int} {spread : Int} {A3 : Option Addr} {c3 : Nat} {labs : List S75} {vo : Value} {outs : List (List Int)} {ok : Nat → Prop} {W : World} (h : FS w0 jb mb g1 g2 g3 g4 A0 c0 lots A1 c1 samples spread A3 c3 labs vo outs ok W) {u : Value} : JW w0 jb mb A0 c0 lots A1 c1 samples spread A3 c3 labs (W.setCell ⟨g2, 0, none⟩ u) ∧ Kd.R kll 23 (W.setCell ⟨g2, 0, none⟩ u) w0.heap.size ok vo outs := by
 obtain ⟨es, c, hm, _⟩ := h.jw.map
 exact ⟨h.jw.change (below_set h.jw.hb h.l2) (Below.heap_setCell _ _ _ _ (blk_ne h.jw.blk h.b2 (by decide))) (Below.heap_setCell _ _ _ _ (fun e => ne_map h.b2 hm e.symm)), R_cellT h.out h.b2 (by decide)⟩
set_option maxHeartbeats 8000000 in
set_option maxRecDepth 100000 in
theorem fewest_any (w0 : World) (jb mb : Nat) (A0 : Option Addr) (c0 : Nat) (lots : List S46) (A1 : Option Addr) (c1 : Nat) (samples : List Int) (spread : Int) (A3 : Option Addr) (c3 : Nat) (labs : List S75) (W : World) (hj : JW w0 jb mb A0 c0 lots A1 c1 samples spread A3 c3 labs W) (hok : RoundOk lots samples spread labs) :
  Calls Try.prog 58 #[.pointer (some ⟨jb, 0, none⟩)] W (FewPost w0 jb mb A0 c0 lots A1 c1 samples spread A3 c3 labs) := by
 have b6 := hok.b6
 have HOk := Aside0.mk hok
 have HJ := Aside0.mk hj
 clear hj hok
 have t1 := blk_new W (.cells #[.pointer (some ⟨jb, 0, none⟩)] 83)
 have t2 := blk_new (W.alloc (.cells #[.pointer (some ⟨jb, 0, none⟩)] 83)) (.cells #[.slice none 0 0] 51)
 have t3 := blk_new ((W.alloc (.cells #[.pointer (some ⟨jb, 0, none⟩)] 83)).alloc (.cells #[.slice none 0 0] 51)) (.cells #[.func (.func 52) #[.pointer (some ⟨jb, 0, none⟩)] #[]] 88)
 have t4 := blk_new (((W.alloc (.cells #[.pointer (some ⟨jb, 0, none⟩)] 83)).alloc (.cells #[.slice none 0 0] 51)).alloc (.cells #[.func (.func 52) #[.pointer (some ⟨jb, 0, none⟩)] #[]] 88)) (.cells #[.func (.func 78) #[] #[.pointer (some ⟨W.heap.size + 1 + 1, 0, none⟩), .pointer (some ⟨W.heap.size + 1, 0, none⟩), .pointer (some ⟨W.heap.size, 0, none⟩), .pointer (some ⟨W.heap.size + 1 + 1 + 1, 0, none⟩)]] 114)
 simp only [World.size_alloc] at t1 t2 t3 t4
 have HFS : FS w0 jb mb W.heap.size (W.heap.size + 1) (W.heap.size + 1 + 1) (W.heap.size + 1 + 1 + 1) A0 c0 lots A1 c1 samples spread A3 c3 labs (.slice none 0 0) [] (fun _ => True) ((((W.alloc (.cells #[.pointer (some ⟨jb, 0, none⟩)] 83)).alloc (.cells #[.slice none 0 0] 51)).alloc (.cells #[.func (.func 52) #[.pointer (some ⟨jb, 0, none⟩)] #[]] 88)).alloc (.cells #[.func (.func 78) #[] #[.pointer (some ⟨W.heap.size + 1 + 1, 0, none⟩), .pointer (some ⟨W.heap.size + 1, 0, none⟩), .pointer (some ⟨W.heap.size, 0, none⟩), .pointer (some ⟨W.heap.size + 1 + 1 + 1, 0, none⟩)]] 114)) :=
  ⟨HJ.out.step (below_alloc (below_alloc (below_alloc (below_alloc (Below.refl _ _) _) _) _) _), blk_alloc (blk_alloc (blk_alloc t1 _) _) _, blk_alloc (blk_alloc t2 _) _, blk_alloc t3 _, t4, Kd.R_nil _ _ _ _ _, by have := HJ.out.hb.size; omega⟩
 replace HFS := Aside0.mk HFS
 clear t1 t2 t3 t4
 go_enter Try.func58, Try.ntmps58
 go_wp2
 generalize (((W.alloc (.cells #[.pointer (some ⟨jb, 0, none⟩)] 83)).alloc (.cells #[.slice none 0 0] 51)).alloc (.cells #[.func (.func 52) #[.pointer (some ⟨jb, 0, none⟩)] #[]] 88)).alloc (.cells #[.func (.func 78) #[] #[.pointer (some ⟨W.heap.size + 1 + 1, 0, none⟩), .pointer (some ⟨W.heap.size + 1, 0, none⟩), .pointer (some ⟨W.heap.size, 0, none⟩), .pointer (some ⟨W.heap.size + 1 + 1 + 1, 0, none⟩)]] 114) = w1 at HFS ⊢
 generalize W.heap.size + 1 + 1 + 1 = g4 at HFS ⊢
 generalize W.heap.size + 1 + 1 = g3 at HFS ⊢
 generalize W.heap.size + 1 = g2 at HFS ⊢
 generalize W.heap.size = g1 at HFS ⊢
 clear HJ
 go_loopw [5] (fun q wr => ∃ (k : Int) (vk : Value), 0 ≤ k ∧ k ≤ labs.length + 1 ∧ q = .int .i64 k ∧ Aside0 (FS w0 jb mb g1 g2 g3 g4 A0 c0 lots A1 c1 samples spread A3 c3 labs vk (fewK (fun l => canF lots samples spread labs (offOf l)) labs.length k.toNat) (fun _ => True) wr)) (fun q _ => labs.length + 1 - (intOf q).toNat)
 case atStart => exact ⟨0, _, by omega, by omega, rfl, HFS⟩
 case round =>
  obtain ⟨k, vk, hk0, hk1, rfl, HFS⟩ := hrel
  obtain ⟨Ak, nk, ck, hv⟩ : ∃ A n c, vk = .slice A n c ∧ n = (fewK (fun l => canF lots samples spread labs (offOf l)) labs.length k.toNat).length := by obtain ⟨A, c, h⟩ := Kd.R_slice HFS.out.out; exact ⟨A, _, c, h, rfl⟩
  obtain ⟨rfl, hnk⟩ := hv
  replace hnk := Aside0.mk hnk
  have e1 := (blk_cell HFS.out.b1 0).trans rfl
  have e2 := (blk_cell HFS.out.b2 0).trans rfl
  have e4 := (blk_cell HFS.out.b4 0).trans rfl
  have ej := HFS.out.jw.at.cells.2.2.2.1
  by_cases hlt : k ≤ labs.length
  ·by_cases hz : nk = 0
   ·have hz0 : ((nk : Int) == 0) = true := by rw [beq_iff_eq]; omega
    have hst : fewK (fun l => canF lots samples spread labs (offOf l)) labs.length (k + 1).toNat = fromF (fun l => canF lots samples spread labs (offOf l)) labs.length k.toNat [] 0 := by rw [show (k + 1).toNat = k.toNat + 1 by omega]; simp only [fewK]; rw [if_pos (by have := hnk.out; omega)]
    have hnil : fewK (fun l => canF lots samples spread labs (offOf l)) labs.length k.toNat = [] := List.eq_nil_of_length_eq_zero (by have := hnk.out; omega)
    rw [hnil] at HFS
    replace hst := Aside0.mk hst
    clear hnil hz
    have HC := Aside0.mk (from_any w0 jb mb g1 g2 g3 g4 A0 c0 lots A1 c1 samples spread A3 c3 labs HOk.out k.toNat (.slice none 0 0) [] (.slice Ak nk ck) [] 0 k 0 wr (fun _ => True) (by omega) rfl (by omega) (by simp; omega) (by have : (6 : Nat) ^ k.toNat ≤ 6 ^ 6 := Nat.pow_le_pow_right (by omega) (by omega); simp; omega) (fun _ _ => trivial) (fun _ _ => by simp [Value.ownBlock]) HFS.out (Kd.R_nil _ _ _ _ _))
    go_wp2_with (go_at_call 78; refine Aside0.out ?_)
    refine ⟨?_⟩
    refine HC.out.mono ?_
    rintro e w2 ⟨rfl, v2, hfs, _, _, _⟩
    replace HFS := Aside0.mk hfs
    clear hfs
    go_wp2
    exact ⟨⟨k + 1, v2, by omega, by omega, rfl, ⟨by rw [hst.out]; exact HFS.out⟩⟩, by simp only [intOf]; omega⟩
   ·have hz0 : ((nk : Int) == 0) = false := by rw [beq_eq_false_iff_ne]; omega
    have HE : Aside0 (fewK (fun l => canF lots samples spread labs (offOf l)) labs.length (labs.length + 1) = fewK (fun l => canF lots samples spread labs (offOf l)) labs.length k.toNat) := ⟨fewK_stays _ _ _ (by have := hnk.out; omega) _ (by omega)⟩
    have HFin : Aside0 (FewPost w0 jb mb A0 c0 lots A1 c1 samples spread A3 c3 labs (.returned (.slice Ak nk ck)) (wr.setCell ⟨g2, 0, none⟩ (.slice Ak nk ck))) := ⟨_, rfl, HFS.out.put.1, by unfold fewestF; rw [HE.out]; exact HFS.out.put.2⟩
    have y2 := blk_frozen HFS.out.b2 0
    have e5 : ∀ u, (wr.setCell ⟨g2, 0, none⟩ u).cell? ⟨g2, 0, none⟩ = some u := fun u => (blk_cell (blk_put HFS.out.b2 0 u rfl) 0).trans rfl
    go_wp2
    (try simp only [Exit.inBlock, Exit.then])
    refine bodyPost_ret (results_cell1 rfl _ _ g2 (.slice Ak nk ck) rfl (e5 _) Try.underlying51) rfl ?_
    exact HFin.out
  ·have HE : Aside0 (fewK (fun l => canF lots samples spread labs (offOf l)) labs.length (labs.length + 1) = fewK (fun l => canF lots samples spread labs (offOf l)) labs.length k.toNat) := ⟨by rw [show k.toNat = labs.length + 1 by omega]⟩
   have HFin : Aside0 (FewPost w0 jb mb A0 c0 lots A1 c1 samples spread A3 c3 labs (.returned (.slice Ak nk ck)) (wr.setCell ⟨g2, 0, none⟩ (.slice Ak nk ck))) := ⟨_, rfl, HFS.out.put.1, by unfold fewestF; rw [HE.out]; exact HFS.out.put.2⟩
   have y2 := blk_frozen HFS.out.b2 0
   have e5 : ∀ u, (wr.setCell ⟨g2, 0, none⟩ u).cell? ⟨g2, 0, none⟩ = some u := fun u => (blk_cell (blk_put HFS.out.b2 0 u rfl) 0).trans rfl
   go_wp2
   (try simp only [Exit.inBlock, Exit.then])
   refine bodyPost_ret (results_cell1 rfl _ _ g2 (.slice Ak nk ck) rfl (e5 _) Try.underlying51) rfl ?_
   exact HFin.out
end Go.Proofs.Ytcpbhklaffgokaa.Q
namespace Go.Proofs.Ytcpbhklaffgokaa.Q
open Go.RowKit Go.Proofs.YtcpbhklaffgokaaW.PrintWords Go.Proofs.YtcpbhklaffgokaaW.PrintLast Go.Proofs.YtcpbhklaffgokaaW.PrintMore
set_option linter.unusedVariables false
set_option linter.unusedSimpArgs false
def inR (v : Int) (r : S46) : Prop := r.f0 ≤ v ∧ v ≤ r.f1
theorem inR_cut (v : Int) (a b : S46) : inR v (cutR a b) ↔ inR v a ∧ inR v b := by
 simp only [inR, cutR]
 omega
theorem inR_empty (r : S46) : emptyR r = false ↔ ∃ v, inR v r := by
 simp only [emptyR, inR, decide_eq_false_iff_not]
 constructor
 ·intro h; exact ⟨r.f0, by omega, by omega⟩
 ·rintro ⟨v, h1, h2⟩; omega
theorem inR_wid (v n : Int) (r : S46) (hn : 0 ≤ n) (hr : emptyR r = false) : inR v (widR r n) ↔ ∃ u, inR u r ∧ u - n ≤ v ∧ v ≤ u + n := by
 simp only [emptyR, inR, widR, decide_eq_false_iff_not] at *
 constructor
 ·intro h
  by_cases h1 : v < r.f0
  ·exact ⟨r.f0, by omega, by omega⟩
  ·by_cases h2 : r.f1 < v
   ·exact ⟨r.f1, by omega, by omega⟩
   ·exact ⟨v, by omega, by omega⟩
 ·rintro ⟨u, h1, h2⟩; omega
def lotsK (labs : List S75) (spread : Int) (o : Nat → Bool) (lab d : Int) : Nat → List Int → List S46 → List S46
 | _, [], lots => lots
 | i, s :: ss, lots => lotsK labs spread o lab d (i + 1) ss (lots.set s.toNat (cutR (lots.getD s.toNat z46) (widR (sampR labs o lab d i) spread)))
def anyEmpty (labs : List S75) (o : Nat → Bool) (lab d : Int) : Nat → List Int → Bool
 | _, [] => false
 | i, _ :: ss => emptyR (sampR labs o lab d i) || anyEmpty labs o lab d (i + 1) ss
def outsK (labs : List S75) (o : Nat → Bool) (lab d : Int) : Nat → List Int → List S46
 | _, [] => []
 | i, _ :: ss => sampR labs o lab d i :: outsK labs o lab d (i + 1) ss
theorem spansFrom_eq (labs : List S75) (spread : Int) (o : Nat → Bool) (lab d : Int) : ∀ (ss : List Int) (i : Nat) (lots out : List S46), spansFrom labs spread o lab d i ss lots out = if anyEmpty labs o lab d i ss = true then none else some (lotsK labs spread o lab d i ss lots, out ++ outsK labs o lab d i ss) := by
 intro ss
 induction ss with
 | nil => intro i lots out; simp [spansFrom, anyEmpty, lotsK, outsK]
 | cons s ss ih =>
  intro i lots out
  simp only [spansFrom, anyEmpty, lotsK, outsK, ih]
  by_cases h : emptyR (sampR labs o lab d i) = true <;> simp [h]
theorem lotsK_length (labs : List S75) (spread : Int) (o : Nat → Bool) (lab d : Int) : ∀ (ss : List Int) (i : Nat) (lots : List S46), (lotsK labs spread o lab d i ss lots).length = lots.length := by
 intro ss
 induction ss with
 | nil => intro i lots; rfl
 | cons s ss ih => intro i lots; simp only [lotsK, ih, List.length_set]
theorem anyEmpty_false (labs : List S75) (o : Nat → Bool) (lab d : Int) : ∀ (ss : List Int) (i : Nat), anyEmpty labs o lab d i ss = false ↔ ∀ j, j < ss.length → emptyR (sampR labs o lab d ((i + j : Nat) : Int)) = false := by
 intro ss
 induction ss with
 | nil => intro i; simp [anyEmpty]
 | cons s ss ih =>
  intro i
  simp only [anyEmpty, Bool.or_eq_false_iff, ih, List.length_cons]
  constructor
  ·rintro ⟨h1, h2⟩ j hj
   cases j with
   | zero => exact h1
   | succ j => have := h2 j (by omega); rwa [show i + 1 + j = i + (j + 1) by omega] at this
  ·intro h
   exact ⟨h 0 (by omega), fun j hj => by have := h (j + 1) (by omega); rwa [show i + (j + 1) = i + 1 + j by omega] at this⟩
theorem inR_lotsK (labs : List S75) (spread : Int) (o : Nat → Bool) (lab d : Int) (v : Int) : ∀ (ss : List Int) (i : Nat) (lots : List S46) (L : Nat), L < lots.length →
  (inR v ((lotsK labs spread o lab d i ss lots).getD L z46) ↔ inR v (lots.getD L z46) ∧ ∀ j, j < ss.length → (ss.getD j 0).toNat = L → inR v (widR (sampR labs o lab d ((i + j : Nat) : Int)) spread)) := by
 intro ss
 induction ss with
 | nil => intro i lots L hL; simp [lotsK]
 | cons s ss ih =>
  intro i lots L hL
  simp only [lotsK]
  rw [ih (i + 1) _ L (by rw [List.length_set]; exact hL)]
  have hset : inR v ((lots.set s.toNat (cutR (lots.getD s.toNat z46) (widR (sampR labs o lab d i) spread))).getD L z46) ↔ inR v (lots.getD L z46) ∧ (s.toNat = L → inR v (widR (sampR labs o lab d i) spread)) := by
   by_cases e : s.toNat = L
   ·subst e
    rw [List.getD_eq_getElem?_getD, List.getElem?_set_self (by omega)]
    simp only [Option.getD_some, inR_cut, forall_const]
   ·rw [List.getD_eq_getElem?_getD, List.getElem?_set_ne e, ← List.getD_eq_getElem?_getD]
    simp [e]
  rw [hset]
  constructor
  ·rintro ⟨⟨h1, h2⟩, h3⟩
   refine ⟨h1, fun j hj e => ?_⟩
   cases j with
   | zero => exact h2 e
   | succ j => have := h3 j (by simpa using hj) e; rwa [show i + 1 + j = i + (j + 1) by omega] at this
  ·rintro ⟨h1, h2⟩
   exact ⟨⟨h1, h2 0 (by simp)⟩, fun j hj e => by have := h2 (j + 1) (by simpa using hj) e; rwa [show i + (j + 1) = i + 1 + j by omega] at this⟩
def fitsP (labs : List S75) (samples : List Int) (spread : Int) (o : Nat → Bool) (lab d : Int) (L : Nat) (v : Int) : Prop :=
 ∀ i, i < samples.length → (samples.getD i 0).toNat = L → ∃ u, inR u (sampR labs o lab d (i : Int)) ∧ u - spread ≤ v ∧ v ≤ u + spread
theorem can_iff {lots : List S46} {samples : List Int} {spread : Int} {labs : List S75} (hok : RoundOk lots samples spread labs) (o : Nat → Bool) (lab d : Int) :
  (spansF lots samples spread labs o lab d).2 = true ↔ ∀ L, L < lots.length → ∃ v, inR v (lots.getD L z46) ∧ fitsP labs samples spread o lab d L v := by
 unfold spansF
 rw [spansFrom_eq]
 have hix : ∀ j, j < samples.length → (samples.getD j 0).toNat < lots.length := by
  intro j hj
  have := hok.smp (samples.getD j 0) (by rw [List.getD_eq_getElem?_getD, List.getElem?_eq_getElem hj]; exact List.getElem_mem _)
  omega
 cases he : anyEmpty labs o lab d 0 samples
 ·rw [if_neg Bool.false_ne_true]
  simp only [Bool.not_eq_true', List.nil_append]
  rw [List.any_eq_false]
  rw [anyEmpty_false] at he
  have hw : ∀ v i, i < samples.length → (inR v (widR (sampR labs o lab d (i : Int)) spread) ↔ ∃ u, inR u (sampR labs o lab d (i : Int)) ∧ u - spread ≤ v ∧ v ≤ u + spread) := fun v i hi => inR_wid v spread _ hok.sp0 (by have := he i hi; simpa using this)
  have key : ∀ L, L < lots.length → (emptyR ((lotsK labs spread o lab d 0 samples lots).getD L z46) = false ↔ ∃ v, inR v (lots.getD L z46) ∧ fitsP labs samples spread o lab d L v) := by
   intro L hL
   rw [inR_empty]
   refine exists_congr fun v => ?_
   rw [inR_lotsK _ _ _ _ _ _ _ _ _ _ hL]
   refine and_congr_right fun _ => ?_
   unfold fitsP
   constructor
   ·intro h i hi e; have := h i hi e; rw [Nat.zero_add] at this; exact (hw v i hi).1 this
   ·intro h i hi e; rw [Nat.zero_add]; exact (hw v i hi).2 (h i hi e)
  constructor
  ·intro h L hL
   rw [← key L hL]
   have := h ((lotsK labs spread o lab d 0 samples lots).getD L z46) (by rw [List.getD_eq_getElem?_getD, List.getElem?_eq_getElem (by rw [lotsK_length]; exact hL)]; exact List.getElem_mem _)
   simpa using this
  ·intro h x hx
   obtain ⟨L, hL, rfl⟩ := List.getElem_of_mem hx
   have hL' := hL
   rw [lotsK_length] at hL'
   have := (key L hL').2 (h L hL')
   rw [List.getD_eq_getElem?_getD, List.getElem?_eq_getElem hL] at this
   simpa using this
 ·rw [if_pos rfl]
  simp only [Bool.false_eq_true, false_iff]
  intro h
  have : anyEmpty labs o lab d 0 samples = false := by
   rw [anyEmpty_false]
   intro j hj
   obtain ⟨v, _, hf⟩ := h _ (hix j hj)
   obtain ⟨u, hu, _⟩ := hf j hj rfl
   rw [inR_empty, Nat.zero_add]
   exact ⟨u, hu⟩
  rw [this] at he
  cases he
end Go.Proofs.Ytcpbhklaffgokaa.Q
namespace Go.Proofs.Ytcpbhklaffgokaa.Q
open Go.RowKit Go.Proofs.YtcpbhklaffgokaaW.PrintWords Go.Proofs.YtcpbhklaffgokaaW.PrintLast Go.Proofs.YtcpbhklaffgokaaW.PrintMore
set_option linter.unusedVariables false
set_option linter.unusedSimpArgs false
theorem readsFrom_off (o : Nat → Bool) (lab d i : Int) : ∀ (xs : List S75) (k : Nat), (∀ j, k ≤ j → j < k + xs.length → o j = true) → readsFrom o lab d i k xs = [] := by
 intro xs
 induction xs with
 | nil => intro k _; rfl
 | cons x xs ih =>
  intro k h
  simp only [readsFrom]
  rw [if_pos (.inl (h k (Nat.le_refl _) (by simp)))]
  exact ih (k + 1) (fun j h1 h2 => h j (by omega) (by simp only [List.length_cons]; omega))
theorem can_none {lots : List S46} {samples : List Int} {spread : Int} {labs : List S75} (hok : RoundOk lots samples spread labs) (o : Nat → Bool) (ho : ∀ j, j < labs.length → o j = true) : canF lots samples spread labs o = true := by
 unfold canF
 rw [can_iff hok]
 intro L hL
 have hl := hok.lot (lots.getD L z46) (by rw [List.getD_eq_getElem?_getD, List.getElem?_eq_getElem hL]; exact List.getElem_mem _)
 refine ⟨(lots.getD L z46).f0, ⟨by omega, by omega⟩, fun i hi _ => ⟨(lots.getD L z46).f0, ?_, by have := hok.sp0; omega, by have := hok.sp0; omega⟩⟩
 unfold sampR
 rw [readsFrom_off o (-1) 0 i labs 0 (fun j _ hj => ho j (by omega))]
 exact ⟨by show (-1073741824 : Int) ≤ _; omega, by show _ ≤ (1073741824 : Int); omega⟩
def upto (a m : Nat) : List Int := (List.range' a m).map fun (k : Nat) => (k : Int)
theorem upto_succ (a m : Nat) : upto a (m + 1) = (a : Int) :: upto (a + 1) m := by simp [upto, List.range'_succ]
theorem fromF_full {can : List Int → Bool} {n : Nat} : ∀ {m : Nat} {l : List Int} {next : Nat}, next + m = n → can (l ++ upto next m) = true → l ++ upto next m ∈ fromF can n m l next := by
 intro m
 induction m with
 | zero =>
  intro l next _ h
  simp only [upto, List.range'_zero, List.map_nil, List.append_nil] at h ⊢
  simp [fromF, h]
 | succ m ih =>
  intro l next hn h
  rw [upto_succ] at h ⊢
  simp only [fromF, List.mem_flatMap]
  refine ⟨next, by rw [List.mem_range'_1]; omega, ?_⟩
  have := ih (l := l ++ [(next : Int)]) (next := next + 1) (by omega) (by simpa using h)
  simpa using this
theorem offOf_upto (n j : Nat) (h : j < n) : offOf (upto 0 n) j = true := by
 unfold offOf upto
 rw [List.contains_iff_mem, List.mem_map]
 exact ⟨j, by rw [List.mem_range'_1]; omega, rfl⟩
theorem fewest_some {lots : List S46} {samples : List Int} {spread : Int} {labs : List S75} (hc : checkRound lots samples spread labs = 0) : 0 < (fewestF lots samples spread labs).length := by
 have hok := roundOk_of_check hc
 unfold fewestF
 simp only [fewK]
 split
 ·have := fromF_full (can := fun l => canF lots samples spread labs (offOf l)) (n := labs.length) (m := labs.length) (l := []) (next := 0) (by omega) (can_none hok _ (fun j hj => offOf_upto _ _ hj))
  exact List.length_pos_of_mem this
 ·omega
end Go.Proofs.Ytcpbhklaffgokaa.Q
namespace Go.Proofs.Ytcpbhklaffgokaa.Q
open Go.RowKit Go.Proofs.YtcpbhklaffgokaaW.PrintWords Go.Proofs.YtcpbhklaffgokaaW.PrintLast Go.Proofs.YtcpbhklaffgokaaW.PrintMore
attribute [local go_sem] max2_int min2_int max_two min_two max_three min_three max_four min_four
set_option linter.unusedVariables false
set_option linter.unusedSimpArgs false
end Go.Proofs.Ytcpbhklaffgokaa.Q
namespace Go.Proofs.Ytcpbhklaffgokaa.Q
open Go.RowKit Go.Proofs.YtcpbhklaffgokaaW.PrintWords Go.Proofs.YtcpbhklaffgokaaW.PrintLast Go.Proofs.YtcpbhklaffgokaaW.PrintMore
set_option linter.unusedVariables false
set_option linter.unusedSimpArgs false
end Go.Proofs.Ytcpbhklaffgokaa.Q
namespace Go.Proofs.Ytcpbhklaffgokaa.Q
open Go.RowKit Go.Proofs.YtcpbhklaffgokaaW.PrintWords Go.Proofs.YtcpbhklaffgokaaW.PrintLast Go.Proofs.YtcpbhklaffgokaaW.PrintMore
attribute [local go_sem] max2_int min2_int max_two min_two max_three min_three max_four min_four
set_option linter.unusedVariables false
set_option linter.unusedSimpArgs false
end Go.Proofs.Ytcpbhklaffgokaa.Q
namespace Go.Proofs.Ytcpbhklaffgokaa.Q
open Go.RowKit Go.Proofs.YtcpbhklaffgokaaW.PrintWords Go.Proofs.YtcpbhklaffgokaaW.PrintLast Go.Proofs.YtcpbhklaffgokaaW.PrintMore
attribute [local go_sem] max2_int min2_int max_two min_two max_three min_three max_four min_four
set_option linter.unusedVariables false
set_option linter.unusedSimpArgs false
end Go.Proofs.Ytcpbhklaffgokaa.Q
namespace Go.Proofs.Ytcpbhklaffgokaa.Q
open Go.RowKit Go.Proofs.YtcpbhklaffgokaaW.PrintWords Go.Proofs.YtcpbhklaffgokaaW.PrintLast Go.Proofs.YtcpbhklaffgokaaW.PrintMore
attribute [local go_sem] max2_int min2_int max_two min_two max_three min_three max_four min_four
set_option linter.unusedVariables false
set_option linter.unusedSimpArgs false
end Go.Proofs.Ytcpbhklaffgokaa.Q
namespace Go.Proofs.Ytcpbhklaffgokaa.Q
open Go.RowKit Go.Proofs.YtcpbhklaffgokaaW.PrintWords Go.Proofs.YtcpbhklaffgokaaW.PrintLast Go.Proofs.YtcpbhklaffgokaaW.PrintMore
set_option linter.unusedVariables false
set_option linter.unusedSimpArgs false
theorem wr (x : Int) (h0 : -9223372036854775808 ≤ x) (h1 : x ≤ 9223372036854775807) : wrap64 x = x := by
 unfold wrap64
 omega
structure Sz (lots : List S44) (samples : List Int) (labs : List S62) : Prop where
 a : lots.length ≤ 9223372036854775807
 b : samples.length ≤ 9223372036854775807
 c : labs.length ≤ 9223372036854775807
 d : ∀ x ∈ labs, x.f1.length ≤ 9223372036854775807
section
variable (lots : List S44) (samples : List Int) (spread : Int) (labs : List S62)
end
end Go.Proofs.Ytcpbhklaffgokaa.Q
namespace Go.Proofs.Ytcpbhklaffgokaa.Q
open Go.RowKit Go.Proofs.YtcpbhklaffgokaaW.PrintWords Go.Proofs.YtcpbhklaffgokaaW.PrintLast Go.Proofs.YtcpbhklaffgokaaW.PrintMore
set_option linter.unusedVariables false
set_option linter.unusedSimpArgs false
noncomputable def tr (p : Prop) : Bool := @decide p (Classical.propDecidable p)
section
variable (lots : List S44) (samples : List Int) (spread : Int) (labs : List S62)
end
end Go.Proofs.Ytcpbhklaffgokaa.Q
namespace Go.Proofs.Ytcpbhklaffgokaa.Q
open Go.RowKit Go.Proofs.YtcpbhklaffgokaaW.PrintWords Go.Proofs.YtcpbhklaffgokaaW.PrintLast Go.Proofs.YtcpbhklaffgokaaW.PrintMore
set_option linter.unusedVariables false
set_option linter.unusedSimpArgs false
def leastF (lots : List S46) (samples : List Int) (spread : Int) (labs : List S75) : List Int × Int :=
 if checkRound lots samples spread labs = 0 then ((fewestF lots samples spread labs).getD 0 [], 0) else ([], checkRound lots samples spread labs)
def LPost (w : World) (r : List Int × Int) (e : Ending) (w' : World) : Prop :=
 ∃ v, e = .returned (.tuple #[v, .int .i64 r.2]) ∧ Kd.R (Kd.int .i64) 3 w' w.heap.size (fun _ => True) v r.1 ∧ Below w.heap.size w w'
theorem first_list {W : World} {base : Nat} {v : Value} {xs : List (List Int)} (h : Kd.R kll 23 W base (fun _ => True) v xs) (hp : 0 < xs.length) :
  ∃ g n c u, v = .slice (some ⟨g, 0, none⟩) n c ∧ 0 < n ∧ n = xs.length ∧ W.cell? ⟨g, 0, none⟩ = some u ∧ Kd.R (Kd.int .i64) 3 W base (fun _ => True) u (xs.getD 0 []) := by
 obtain ⟨g, cap, rfl, _⟩ := Kd.R_form h hp
 obtain ⟨c, hc, hM, hcell, _⟩ := Kd.R_elem h [] 0 (by omega) (by omega)
 obtain ⟨u, rfl, hu⟩ := hM
 refine ⟨g, _, cap, u, rfl, hp, rfl, ?_, ?_⟩
 ·have := hcell 0 u rfl
  simpa using this
 ·have := Kd.R_mono hu (fun _ _ => trivial)
  simpa using this
set_option maxHeartbeats 4000000 in
set_option maxRecDepth 100000 in
theorem Least_any (A0 : Option Addr) (c0 : Nat) (lots : List S46) (A1 : Option Addr) (c1 : Nat) (samples : List Int) (spread : Int) (A3 : Option Addr) (c3 : Nat) (labs : List S75) (w : World) (hr0 : Kd.C k46 w A0 lots.length lots) (hr1 : (Kd.int .i64).C w A1 samples.length samples) (hr3 : Kd.C k75 w A3 labs.length labs) (hne : checkRound lots samples spread labs = 0 → 0 < (fewestF lots samples spread labs).length) :
  Calls Try.prog 29 #[.agg #[.slice A0 lots.length c0, .slice A1 samples.length c1, .int .i64 spread, .slice A3 labs.length c3]] w (LPost w (leastF lots samples spread labs)) := by
 by_cases hc : checkRound lots samples spread labs = 0
 ·have HX : leastF lots samples spread labs = ((fewestF lots samples spread labs).getD 0 [], 0) := by unfold leastF; rw [if_pos hc]
  rw [HX]
  have HN := Aside0.mk (hne hc)
  have HC := Aside0.mk (judge_ok A0 c0 lots A1 c1 samples spread A3 c3 labs (w.alloc (.cells #[.slice A0 lots.length c0, .slice A1 samples.length c1, .int .i64 spread, .slice A3 labs.length c3] 34)) (Kd.C_alloc hr0 _) (Kd.C_alloc hr1 _) (Kd.C_alloc hr3 _) hc)
  have HB0 := Aside0.mk (below_alloc (Below.refl _ w) (.cells #[.slice A0 lots.length c0, .slice A1 samples.length c1, .int .i64 spread, .slice A3 labs.length c3] 34))
  have hok := Aside0.mk (roundOk_of_check hc)
  clear HX hr0 hr1 hr3 hc hne
  go_enter Try.func29, Try.ntmps29
  go_wp2_with (go_at_call 57; refine Aside0.out ?_)
  refine ⟨?_⟩
  refine HC.out.mono ?_
  clear HC
  rintro e w1 ⟨jb, mb, rfl, hj⟩
  have HF := Aside0.mk (fewest_any _ jb mb A0 c0 lots A1 c1 samples spread A3 c3 labs w1 hj hok.out)
  clear hj
  go_wp2_with (go_at_call 58; refine Aside0.out ?_)
  refine ⟨?_⟩
  refine HF.out.mono ?_
  clear HF
  rintro e w2 ⟨v, rfl, hj2, hr2⟩
  obtain ⟨g, n, c, u, rfl, hn, _, hcell, hu⟩ := first_list hr2 HN.out
  have HFin : Aside0 (LPost w ((fewestF lots samples spread labs).getD 0 [], 0) (.returned (.tuple #[u, .int .i64 0])) w2) := ⟨u, rfl, Kd.R_lower hu (by simp), below_step HB0.out hj2.hb⟩
  clear hr2 hj2 hu
  go_wp2
  go_ret2
  exact HFin.out
 ·have HX : leastF lots samples spread labs = ([], checkRound lots samples spread labs) := by unfold leastF; rw [if_neg hc]
  rw [HX]
  have HC := Aside0.mk (judge_bad A0 c0 lots A1 c1 samples spread A3 c3 labs (w.alloc (.cells #[.slice A0 lots.length c0, .slice A1 samples.length c1, .int .i64 spread, .slice A3 labs.length c3] 34)) (Kd.C_alloc hr0 _) (Kd.C_alloc hr1 _) (Kd.C_alloc hr3 _) hc)
  have HB0 := Aside0.mk (below_alloc (Below.refl _ w) (.cells #[.slice A0 lots.length c0, .slice A1 samples.length c1, .int .i64 spread, .slice A3 labs.length c3] 34))
  clear HX hr0 hr1 hr3 hne
  generalize checkRound lots samples spread labs = c at hc HC ⊢
  have hne : (c != 0) = true := bne_iff_ne.2 hc
  clear hc
  go_enter Try.func29, Try.ntmps29
  go_wp2_with (go_at_call 57; refine Aside0.out ?_)
  refine ⟨?_⟩
  refine HC.out.mono ?_
  clear HC
  rintro e w1 ⟨rfl, hb⟩
  replace HB0 := Aside0.mk (below_step HB0.out hb)
  clear hb
  go_wp2
  go_ret2
  exact ⟨_, rfl, Kd.R_nil _ _ _ _ _, HB0.out⟩
end Go.Proofs.Ytcpbhklaffgokaa.Q
namespace Go.Proofs.Ytcpbhklaffgokaa.Q
open Go.RowKit Go.Proofs.YtcpbhklaffgokaaW.PrintWords Go.Proofs.YtcpbhklaffgokaaW.PrintLast Go.Proofs.YtcpbhklaffgokaaW.PrintMore
set_option linter.unusedVariables false
set_option linter.unusedSimpArgs false
set_option maxHeartbeats 4000000 in
theorem index_any (v : Int) (xs : List Int) (A : Option Addr) (c : Nat) (w : World) (hr : Kd.C (Kd.int .i64) w A xs.length xs) (hlen : xs.length < 17592186044416) :
  Calls Try.prog 84 #[.slice A xs.length c, .int .i64 v] w (IdxPost (fun x => x == v) xs w) := by
 have HR := Aside0.mk hr
 clear hr
 go_enter Try.func84, Try.ntmps84
 go_wp2
 go_loopw [8] (fun i wr => ∃ k : Int, 0 ≤ k ∧ k ≤ xs.length ∧ i = .int .i64 k ∧ Aside0 (Below w.heap.size w wr) ∧ Aside0 ((xs.take k.toNat).any (fun x => x == v) = false)) (fun i _ => xs.length - (intOf i).toNat)
 case atStart => exact ⟨0, by omega, by omega, rfl, ⟨Below.refl _ _⟩, ⟨rfl⟩⟩
 case round =>
  obtain ⟨k, hk0, hk, rfl, HB, HQ⟩ := hrel
  by_cases hlt : k < xs.length
  ·obtain ⟨ad, hA, hx0⟩ := Kd.at_int HR.out k (by omega) (by omega)
   have hw0 : wr.cell? (ad.add k.toNat) = _ := (HB.out.cell (World.block_lt_of_cell? w _ hx0)).trans hx0
   obtain rfl := hA
   clear hx0
   by_cases hq : rd xs k = v
   ·have HQ1 : Aside0 ((fun x => x == v) (xs.getD k.toNat 0) = true) := ⟨by show (rd xs k == v) = true; rw [hq]; exact beq_self_eq_true v⟩
    have hv : (v == rd xs k) = true := by rw [hq]; exact beq_self_eq_true v
    clear hq
    go_wp2
    go_ret
    exact ⟨k, rfl, any_hit _ 0 xs k hk0 hlt HQ1.out, HB.out⟩
   ·have HQ1 : Aside0 ((fun x => x == v) (xs.getD k.toNat 0) = false) := ⟨by show (rd xs k == v) = false; rw [beq_eq_false_iff_ne]; exact hq⟩
    have hv : (v == rd xs k) = false := by rw [beq_eq_false_iff_ne]; exact fun h => hq h.symm
    clear hq
    go_wp2
    exact ⟨⟨k + 1, by omega, by omega, rfl, HB, ⟨any_snoc _ 0 xs k hk0 hlt HQ.out HQ1.out⟩⟩, by simp [intOf]; omega⟩
  ·go_wp2
   go_ret
   exact ⟨-1, rfl, any_none _ xs k (by omega) HQ.out, HB.out⟩
theorem contains_eq (v : Int) (xs : List Int) : (xs.any fun x => x == v) = xs.contains v := by
 rw [Bool.eq_iff_iff]
 simp
theorem contains_any (v : Int) (xs : List Int) (A : Option Addr) (c : Nat) (w : World) (hr : Kd.C (Kd.int .i64) w A xs.length xs) (hlen : xs.length < 17592186044416) :
  Calls Try.prog 64 #[.slice A xs.length c, .int .i64 v] w fun e w' => e = .returned (.bool (xs.contains v)) ∧ Below w.heap.size w w' := by
 have HC := Aside0.mk (index_any v xs A c w hr hlen)
 clear hr
 go_enter Try.func64, Try.ntmps64
 go_wp2_with (go_at_call 84; (with_reducible refine HC.out.mono ?_); rintro e w2 ⟨i, rfl, hi, hb⟩; replace hi := Aside0.mk hi; replace hb := Aside0.mk hb)
 go_ret
 exact ⟨by rw [← contains_eq, ← hi.out]; rfl, hb.out⟩
theorem has_any (v : Int) (bx : Nat) (xs : List Int) (A : Option Addr) (c : Nat) (w : World) (hbx : w.cell? ⟨bx, 0, none⟩ = some (.int .i64 v)) (hr : Kd.C (Kd.int .i64) w A xs.length xs) (hlen : xs.length < 17592186044416) :
  Calls Try.prog 63 #[.slice A xs.length c, .pointer (some ⟨bx, 0, none⟩)] w fun e w' => e = .returned (.bool (xs.contains v)) ∧ Below w.heap.size w w' := by
 have HC := Aside0.mk (contains_any v xs A c w hr hlen)
 generalize xs.contains v = b at HC ⊢
 clear hr
 go_enter Try.func63, Try.ntmps63
 go_wp2_with (go_at_call 64; (with_reducible refine HC.out.mono ?_); rintro e w2 ⟨rfl, hb⟩; replace hb := Aside0.mk hb)
 go_ret
 exact ⟨rfl, hb.out⟩
def convP (ls : List (List Int)) (k : Int) : Bool := ls.all fun l => l.contains k
def convL (ls : List (List Int)) : List Int := (ls.getD 0 []).filter (convP ls)
def convF (lots : List S46) (samples : List Int) (spread : Int) (labs : List S75) : List Int × Int :=
 if checkRound lots samples spread labs = 0 then (if convL (fewestF lots samples spread labs) = [] then ([], 7) else (convL (fewestF lots samples spread labs), 0)) else ([], checkRound lots samples spread labs)
theorem fromF_mem {can : List Int → Bool} {n : Nat} : ∀ {m : Nat} {l : List Int} {next : Nat} {y : List Int}, y ∈ fromF can n m l next → y.length = l.length + m := by
 intro m
 induction m with
 | zero =>
  intro l next y hy
  simp only [fromF] at hy
  split at hy
  ·rw [List.mem_singleton.1 hy]; rfl
  ·cases hy
 | succ m ih =>
  intro l next y hy
  simp only [fromF, List.mem_flatMap] at hy
  obtain ⟨k, _, hk⟩ := hy
  have := ih hk
  simp only [List.length_append, List.length_singleton] at this
  omega
theorem fewK_mem {can : List Int → Bool} {n : Nat} : ∀ {k : Nat} {y : List Int}, y ∈ fewK can n k → y.length < k := by
 intro k
 induction k with
 | zero => intro y hy; cases hy
 | succ k ih =>
  intro y hy
  simp only [fewK] at hy
  split at hy
  ·have := fromF_mem hy; simp at this; omega
  ·have := ih hy; omega
theorem filter_snoc (p : Int → Bool) (xs : List Int) (k : Int) (h0 : 0 ≤ k) (h : k < xs.length) : (xs.take (k + 1).toNat).filter p = (xs.take k.toNat).filter p ++ if p (rd xs k) = true then [rd xs k] else [] := by
 have h3 : k.toNat < xs.length := by omega
 have h4 : (k + 1).toNat = k.toNat + 1 := by omega
 rw [h4, List.take_succ_eq_append_getElem h3, List.filter_append]
 congr 1
 have : rd xs k = xs[k.toNat] := by simp [rd, List.getD_eq_getElem?_getD, List.getElem?_eq_getElem h3]
 rw [this]
 cases hp : p xs[k.toNat] <;> simp [hp]
set_option maxHeartbeats 4000000 in
set_option maxRecDepth 100000 in
theorem Convicted_bad (A0 : Option Addr) (c0 : Nat) (lots : List S46) (A1 : Option Addr) (c1 : Nat) (samples : List Int) (spread : Int) (A3 : Option Addr) (c3 : Nat) (labs : List S75) (w : World) (hr0 : Kd.C k46 w A0 lots.length lots) (hr1 : (Kd.int .i64).C w A1 samples.length samples) (hr3 : Kd.C k75 w A3 labs.length labs) (hc : checkRound lots samples spread labs ≠ 0) :
  Calls Try.prog 38 #[.agg #[.slice A0 lots.length c0, .slice A1 samples.length c1, .int .i64 spread, .slice A3 labs.length c3]] w (LPost w ([], checkRound lots samples spread labs)) := by
 have HC := Aside0.mk (judge_bad A0 c0 lots A1 c1 samples spread A3 c3 labs (w.alloc (.cells #[.slice A0 lots.length c0, .slice A1 samples.length c1, .int .i64 spread, .slice A3 labs.length c3] 34)) (Kd.C_alloc hr0 _) (Kd.C_alloc hr1 _) (Kd.C_alloc hr3 _) hc)
 have HB0 := Aside0.mk (below_alloc (Below.refl _ w) (.cells #[.slice A0 lots.length c0, .slice A1 samples.length c1, .int .i64 spread, .slice A3 labs.length c3] 34))
 clear hr0 hr1 hr3
 generalize checkRound lots samples spread labs = c at hc HC ⊢
 have hne : (c != 0) = true := bne_iff_ne.2 hc
 clear hc
 go_enter Try.func38, Try.ntmps38
 go_wp2_with (go_at_call 57; refine Aside0.out ?_)
 refine ⟨?_⟩
 refine HC.out.mono ?_
 clear HC
 rintro e w1 ⟨rfl, hb⟩
 replace HB0 := Aside0.mk (below_step HB0.out hb)
 clear hb
 go_wp2
 go_ret2
 exact ⟨_, rfl, Kd.R_nil _ _ _ _ _, HB0.out⟩
set_option maxHeartbeats 8000000 in
set_option maxRecDepth 100000 in
theorem Convicted_ok (A0 : Option Addr) (c0 : Nat) (lots : List S46) (A1 : Option Addr) (c1 : Nat) (samples : List Int) (spread : Int) (A3 : Option Addr) (c3 : Nat) (labs : List S75) (w : World) (hr0 : Kd.C k46 w A0 lots.length lots) (hr1 : (Kd.int .i64).C w A1 samples.length samples) (hr3 : Kd.C k75 w A3 labs.length labs) (hc : checkRound lots samples spread labs = 0) (hne : 0 < (fewestF lots samples spread labs).length) (r : List Int × Int) (hr : r = if convL (fewestF lots samples spread labs) = [] then ([], 7) else (convL (fewestF lots samples spread labs), 0)) :
  Calls Try.prog 38 #[.agg #[.slice A0 lots.length c0, .slice A1 samples.length c1, .int .i64 spread, .slice A3 labs.length c3]] w (LPost w r) := by
 have HRr := Aside0.mk hr
 have HC := Aside0.mk (judge_ok A0 c0 lots A1 c1 samples spread A3 c3 labs (w.alloc (.cells #[.slice A0 lots.length c0, .slice A1 samples.length c1, .int .i64 spread, .slice A3 labs.length c3] 34)) (Kd.C_alloc hr0 _) (Kd.C_alloc hr1 _) (Kd.C_alloc hr3 _) hc)
 have HB0 := Aside0.mk (below_alloc (Below.refl _ w) (.cells #[.slice A0 lots.length c0, .slice A1 samples.length c1, .int .i64 spread, .slice A3 labs.length c3] 34))
 have hok := Aside0.mk (roundOk_of_check hc)
 have HLen : (fewestF lots samples spread labs).length ≤ 46656 := fewK_length _ _ hok.out.b6 _ (by have := hok.out.b6; omega)
 have HNe := Aside0.mk hne
 have HLl : Aside0 (∀ y ∈ fewestF lots samples spread labs, y.length < 17592186044416) := ⟨fun y hy => by have := fewK_mem hy; have := hok.out.b6; omega⟩
 clear hr0 hr1 hr3 hc hr hne
 go_enter Try.func38, Try.ntmps38
 go_wp2_with (go_at_call 57; refine Aside0.out ?_)
 refine ⟨?_⟩
 refine HC.out.mono ?_
 clear HC
 rintro e w1 ⟨jb, mb, rfl, hj⟩
 have HF := Aside0.mk (fewest_any _ jb mb A0 c0 lots A1 c1 samples spread A3 c3 labs w1 hj hok.out)
 clear hj
 go_wp2_with (go_at_call 58; refine Aside0.out ?_)
 refine ⟨?_⟩
 refine HF.out.mono ?_
 clear HF
 rintro e w2 ⟨v, rfl, hj2, hr2⟩
 generalize fewestF lots samples spread labs = ls at hr2 HLen HNe HRr HLl ⊢
 obtain ⟨g, n, c, u, rfl, hn, hnl, hcell, hu⟩ := first_list hr2 HNe.out
 have HB := Aside0.mk (below_step HB0.out hj2.hb)
 have HLs := Aside0.mk (Kd.R_lower (Kd.R_mono (Kd.R_bound hr2) (fun q hq => hq.2.2.1)) (show w.heap.size ≤ _ by simp))
 have HU := Aside0.mk (Kd.R_lower (Kd.R_mono (Kd.R_bound hu) (fun q hq => hq.2.2.1)) (show w.heap.size ≤ _ by simp))
 generalize hl0 : ls.getD 0 [] = l0 at HU
 have HL0 := Aside0.mk hl0
 subst hnl
 obtain ⟨Au, nu, cu, rfl, hnu⟩ : ∃ A n c, u = .slice A n c ∧ n = l0.length := by obtain ⟨A, c, h⟩ := Kd.R_slice HU.out; exact ⟨A, _, c, h, rfl⟩
 subst hnu
 have hM : w.heap.size ≤ w2.heap.size := HB.out.size
 have hl0b : l0.length < 17592186044416 := by rw [← HL0.out, List.getD_eq_getElem?_getD, List.getElem?_eq_getElem HNe.out]; exact HLl.out _ (List.getElem_mem _)
 clear hr2 hj2 hu hl0 HB0
 go_wp2
 go_loopw [7, 24] (fun o q wr => ∃ (k : Int) (Ao : Option Addr) (no co : Nat), 0 ≤ k ∧ k ≤ l0.length ∧ q = .int .i64 k ∧ o = .slice Ao no co ∧ (no : Int) ≤ k ∧ Aside0 (no = ((l0.take k.toNat).filter (convP ls)).length) ∧ Aside0 (Below w2.heap.size w2 wr) ∧ Aside0 (Kd.R (Kd.int .i64) 3 wr w2.heap.size (fun _ => True) (.slice Ao no co) ((l0.take k.toNat).filter (convP ls))) ∧ Aside0 (Kd.R kll 23 wr w.heap.size (fun q => q < w2.heap.size) (.slice (some ⟨g, 0, none⟩) ls.length c) ls) ∧ Aside0 (Kd.R (Kd.int .i64) 3 wr w.heap.size (fun q => q < w2.heap.size) (.slice Au l0.length cu) l0)) (fun _ q _ => l0.length - (intOf q).toNat)
 case atStart => exact ⟨0, none, 0, 0, by omega, by omega, rfl, rfl, by omega, ⟨rfl⟩, ⟨Below.refl _ _⟩, ⟨Kd.R_nil _ _ _ _ _⟩, HLs, HU⟩
 case round =>
  obtain ⟨k, Ao, no, co, hk0, hk1, rfl, rfl, hno, HNo, HSz, HO, HLs, HU⟩ := hrel
  by_cases hlt : k < l0.length
  ·obtain ⟨ad, hA, hx0⟩ := Kd.at_int (Kd.R_reads' HU.out).2.2 k (by omega) (by omega)
   obtain rfl := hA
   have HT := Aside0.mk (filter_snoc (convP ls) l0 k hk0 hlt)
   have B9 := Aside0.mk (blk_new wr (.cells #[.int .i64 (rd l0 k)] 3))
   have HOa := Aside0.mk (Kd.R_below HO.out (below_alloc (Below.refl _ wr) (.cells #[.int .i64 (rd l0 k)] 3)))
   have HLa := Aside0.mk (Kd.R_below HLs.out (below_alloc (Below.refl _ wr) (.cells #[.int .i64 (rd l0 k)] 3)))
   have HUa := Aside0.mk (Kd.R_below HU.out (below_alloc (Below.refl _ wr) (.cells #[.int .i64 (rd l0 k)] 3)))
   have HSa := Aside0.mk (below_alloc HSz.out (.cells #[.int .i64 (rd l0 k)] 3))
   go_wp2_with (go_at_call 62; refine Aside0.out ?_)
   refine ⟨?_⟩
   clear hx0
   generalize wr.alloc (.cells #[.int .i64 (rd l0 k)] 3) = w3 at B9 HOa HLa HUa HSa ⊢
   generalize wr.heap.size = g9 at B9 ⊢
   generalize hx : rd l0 k = x at HT B9 ⊢
   have HALL : Calls Try.prog 62 #[.slice (some ⟨g, 0, none⟩) ls.length c, .func (.func 63) #[] #[.pointer (some ⟨g9, 0, none⟩)]] w3 fun e w' => e = .returned (.bool (convP ls x)) ∧ Below w3.heap.size w3 w' :=
    all23_63 (rb := g9) (fun l => l.contains x) ls (some ⟨g, 0, none⟩) c w3 (Kd.R_reads' HLa.out).2.2 (by omega) (fun y hy w4 hw4 A1 c1 hc1 hC1 => has_any x g9 y A1 c1 w4 ((blk_cell (blk_below B9.out hw4) 0).trans rfl) hC1 (HLl.out y hy))
   cases hp : convP ls x
   all_goals
    rw [hp] at HALL
    refine HALL.mono ?_
    clear HALL
    rintro e w4 ⟨rfl, hb⟩
    have HO4 := Aside0.mk (Kd.R_below HOa.out hb)
    have HL4 := Aside0.mk (Kd.R_below HLa.out hb)
    have HU4 := Aside0.mk (Kd.R_below HUa.out hb)
    have HS4 := Aside0.mk (below_step HSa.out hb)
    have B94 := Aside0.mk (blk_below B9.out hb)
    clear hb HOa HLa HUa HSa B9 HO HLs HU
   ·have HT2 : Aside0 ((l0.take (k + 1).toNat).filter (convP ls) = (l0.take k.toNat).filter (convP ls)) := ⟨by rw [HT.out, hp, if_neg Bool.false_ne_true, List.append_nil]⟩
    clear hp
    go_wp2
    exact ⟨⟨k + 1, Ao, no, co, by omega, by omega, rfl, rfl, by omega, ⟨by rw [HT2.out]; exact HNo.out⟩, HS4, ⟨by rw [HT2.out]; exact HO4.out⟩, HL4, HU4⟩, by simp only [intOf]; omega⟩
   ·have HT2 : Aside0 ((l0.take (k + 1).toNat).filter (convP ls) = (l0.take k.toNat).filter (convP ls) ++ [x]) := ⟨by rw [HT.out, hp, if_pos rfl]⟩
    clear hp
    have e9 := (blk_cell B94.out 0).trans rfl
    go_wp2_with (((with_reducible refine gate_builtin (b := .append) (xs := #[.tmp 31, .tmp 33]) rfl ?_); at_builtin; refine Aside0.out ?_))
    refine ⟨?_⟩
    have hln : ((l0.take k.toNat).filter (convP ls)).length = no := HNo.out.symm
    refine Kd.R_append (Kd.int .i64) (w0 := w2) w2.heap.size rfl (.tmp 31) (.tmp 33) 23 3 (.int .i64 0) 8 rfl Try.underlying23 info3 rfl (by decide) (by omega) (.slice Ao no co) ((l0.take k.toNat).filter (convP ls)) x [.int .i64 x] (fun _ => True) (fun _ => False) rfl rfl rfl (fun _ h => h.elim) (fun _ _ => trivial) HO4.out HS4.out HS4.out.size (by omega) ?_
    intro v5 w5 ho5 hb5 hg5 hat5
    obtain ⟨A5, n5, c5, hv5⟩ : ∃ A n c, v5 = .slice A n c ∧ n = ((l0.take k.toNat).filter (convP ls) ++ [x]).length := by obtain ⟨A, c, h⟩ := Kd.R_slice ho5; exact ⟨A, _, c, h, rfl⟩
    obtain ⟨rfl, hn5⟩ := hv5
    have hn6 : n5 = no + 1 := by rw [hn5, List.length_append, hln]; rfl
    subst hn6
    have HO5 := Aside0.mk ho5
    have HS5 := Aside0.mk hb5
    have HL5 := Aside0.mk (Kd.R_grown HL4.out hg5 (fun q hq he => by have := Kd.R_base HO4.out q he.symm; omega))
    have HU5 := Aside0.mk (Kd.R_grown HU4.out hg5 (fun q hq he => by have := Kd.R_base HO4.out q he.symm; omega))
    replace hn5 := Aside0.mk hn5
    clear ho5 hb5 hg5 hat5 hln HO4 HS4 HL4 HU4 e9
    go_wp2
    exact ⟨⟨k + 1, A5, no + 1, c5, by omega, by omega, rfl, rfl, by omega, ⟨by rw [HT2.out]; exact hn5.out⟩, HS5, ⟨by rw [HT2.out]; exact HO5.out⟩, HL5, HU5⟩, by simp only [intOf]; omega⟩
  ·have hk : k = l0.length := by omega
   have HT : Aside0 ((l0.take k.toNat).filter (convP ls) = convL ls) := ⟨by rw [hk, Int.toNat_natCast, List.take_length]; unfold convL; rw [HL0.out]⟩
   rw [HT.out] at HO HNo
   have HFB := Aside0.mk (below_step HB.out HSz.out)
   by_cases hz : no = 0
   ·have hnil : convL ls = [] := List.eq_nil_of_length_eq_zero (by have := HNo.out; omega)
    obtain rfl : r = ([], 7) := by rw [HRr.out, if_pos hnil]
    have hz0 : ((no : Int) == 0) = true := by rw [beq_iff_eq]; omega
    clear hz hnil hk
    go_wp2
    go_ret2
    exact ⟨_, rfl, Kd.R_nil _ _ _ _ _, HFB.out⟩
   ·have hnil : convL ls ≠ [] := fun e => by have := HNo.out; rw [e] at this; simp at this; omega
    obtain rfl : r = (convL ls, 0) := by rw [HRr.out, if_neg hnil]
    have hz0 : ((no : Int) == 0) = false := by rw [beq_eq_false_iff_ne]; omega
    clear hz hnil hk
    go_wp2
    go_ret2
    exact ⟨_, rfl, Kd.R_lower HO.out hM, HFB.out⟩
theorem Convicted_any (A0 : Option Addr) (c0 : Nat) (lots : List S46) (A1 : Option Addr) (c1 : Nat) (samples : List Int) (spread : Int) (A3 : Option Addr) (c3 : Nat) (labs : List S75) (w : World) (hr0 : Kd.C k46 w A0 lots.length lots) (hr1 : (Kd.int .i64).C w A1 samples.length samples) (hr3 : Kd.C k75 w A3 labs.length labs) (hne : checkRound lots samples spread labs = 0 → 0 < (fewestF lots samples spread labs).length) :
  Calls Try.prog 38 #[.agg #[.slice A0 lots.length c0, .slice A1 samples.length c1, .int .i64 spread, .slice A3 labs.length c3]] w (LPost w (convF lots samples spread labs)) := by
 by_cases hc : checkRound lots samples spread labs = 0
 ·unfold convF
  rw [if_pos hc]
  exact Convicted_ok _ _ _ _ _ _ _ _ _ _ w hr0 hr1 hr3 hc (hne hc) _ rfl
 ·unfold convF
  rw [if_neg hc]
  exact Convicted_bad _ _ _ _ _ _ _ _ _ _ w hr0 hr1 hr3 hc
end Go.Proofs.Ytcpbhklaffgokaa.Q
namespace Go.Proofs.Ytcpbhklaffgokaa.Q
open Go.RowKit Go.Proofs.YtcpbhklaffgokaaW.PrintWords Go.Proofs.YtcpbhklaffgokaaW.PrintLast Go.Proofs.YtcpbhklaffgokaaW.PrintMore
set_option linter.unusedVariables false
set_option linter.unusedSimpArgs false
theorem C_blk {α : Type} {d : Kd α} {W : World} {g : Nat} {cs : Array Value} {t : TypeId} {xs : List α} (hb : W.heap[g]? = some (.cells cs t (0, 0))) (hl : xs.length ≤ 1000) (f : Nat → List Value)
  (hf : ∀ j p, xs[j]? = some p → (f j).length = d.sz ∧ d.K W p (f j) ∧ ∀ i u, (f j)[i]? = some u → cs[j * d.sz + i]? = some u) : d.C W (some ⟨g, 0, none⟩) xs.length xs := by
 refine ⟨rfl, by omega, fun _ => ⟨_, rfl, fun j p hj => ?_⟩⟩
 obtain ⟨h1, h2, h3⟩ := hf j p hj
 refine ⟨f j, h1, h2, fun i u hu => ?_⟩
 have := blk_cell hb (j * d.sz + i)
 rw [show (⟨g, 0, none⟩ : Addr).add (j * d.sz + i) = ⟨g, j * d.sz + i, none⟩ by unfold Addr.add; split <;> simp_all]
 rw [this]
 exact h3 i u hu
theorem C_ints {W : World} {g : Nat} {t : TypeId} {xs : List Int} (hb : W.heap[g]? = some (.cells (encs (Value.int .i64) xs).toArray t (0, 0))) (hl : xs.length ≤ 1000) : (Kd.int .i64).C W (some ⟨g, 0, none⟩) xs.length xs := by
 refine C_blk hb hl (fun j => [.int .i64 (xs.getD j 0)]) (fun j p hj => ?_)
 have hp : xs.getD j 0 = p := by rw [List.getD_eq_getElem?_getD, hj]; rfl
 rw [hp]
 refine ⟨rfl, rfl, fun i u hu => ?_⟩
 match i, hu with
 | 0, hu =>
  simp at hu
  subst hu
  show (encs (Value.int .i64) xs).toArray[j * 1 + 0]? = _
  simp [encs, hj]
def trialLots : List S46 := [{ f0 := 100, f1 := 140 }, { f0 := 200, f1 := 260 }]
def trialSamples : List Int := [0, 0, 1]
def trialLabs : List S75 := [{ f0 := 3, f1 := [120, 122, 230] }, { f0 := 3, f1 := [124, 121, 234] }, { f0 := 2, f1 := [131, 133, 240] }, { f0 := 5, f1 := [-1, 118, 229] }]
set_option maxRecDepth 100000 in
theorem trial_pure : checkRound trialLots trialSamples 2 trialLabs = 0 ∧ explainsF trialLots trialSamples 2 trialLabs [] = (false, 0) ∧ explainsF trialLots trialSamples 2 trialLabs [2] = (true, 0) ∧ spansR trialLots trialSamples 2 trialLabs [2] = ([{ f0 := 121, f1 := 123 }, { f0 := 119, f1 := 123 }, { f0 := 231, f1 := 233 }], 0) ∧ leastF trialLots trialSamples 2 trialLabs = ([2], 0) := by
 refine ⟨?_, ?_, ?_, ?_, ?_⟩ <;> kernel_rfl
theorem blk_new' {w : World} {o : Obj} {n : Nat} (h : w.heap.size = n) : (w.alloc o).heap[n]? = some o := h ▸ blk_new w o
theorem C_46 {W : World} {g : Nat} {t : TypeId} {xs : List S46} (hb : W.heap[g]? = some (.cells (xs.flatMap fun x => [.int .i64 x.f0, .int .i64 x.f1]).toArray t (0, 0))) (hl : xs.length ≤ 1000) : Kd.C k46 W (some ⟨g, 0, none⟩) xs.length xs := by
 refine C_blk hb hl (fun j => [.int .i64 (xs.getD j z46).f0, .int .i64 (xs.getD j z46).f1]) (fun j p hj => ?_)
 have hp : xs.getD j z46 = p := by rw [List.getD_eq_getElem?_getD, hj]; rfl
 rw [hp]
 refine ⟨rfl, k46_mk _ _, fun i u hu => ?_⟩
 have key : ∀ (ys : List S46) (j : Nat), ys[j]? = some p → ∀ i u, ([.int .i64 p.f0, .int .i64 p.f1] : List Value)[i]? = some u → (ys.flatMap fun x => [Value.int .i64 x.f0, .int .i64 x.f1])[j * 2 + i]? = some u := by
  intro ys
  induction ys with
  | nil => intro j h; cases h
  | cons y ys ih =>
   intro j h i u hu
   cases j with
   | zero =>
    simp at h
    subst h
    match i, hu with
    | 0, hu => simpa using hu
    | 1, hu => simpa using hu
   | succ j =>
    simp at h
    have := ih j h i u hu
    simp only [List.flatMap_cons]
    rw [show (j + 1) * 2 + i = (j * 2 + i) + 2 by omega]
    simpa using this
 show (xs.flatMap fun x => [Value.int .i64 x.f0, .int .i64 x.f1]).toArray[j * 2 + i]? = some u
 simpa using key xs j hj i u hu
set_option maxRecDepth 100000 in
theorem trial_shifts : shiftsF trialLots trialSamples 2 trialLabs 2 = ({ f0 := 8, f1 := 11 }, 0) := by kernel_rfl
def TrialPost (w : World) (e : Ending) (w' : World) : Prop := ∃ (A0 A1 A3 : Option Addr) (c0 c1 c3 : Nat), e = .returned (.agg #[.slice A0 2 c0, .slice A1 3 c1, .int .i64 2, .slice A3 4 c3]) ∧ Kd.C k46 w' A0 2 trialLots ∧ (Kd.int .i64).C w' A1 3 trialSamples ∧ Kd.C k75 w' A3 4 trialLabs ∧ Below w.heap.size w w'
set_option maxHeartbeats 4000000 in
set_option maxRecDepth 100000 in
theorem trial_any (w : World) : Calls Try.prog 40 #[] w (TrialPost w) := by
 go_enter Try.func40, Try.ntmps40
 go_wp2
 refine bodyPost_ret (results_single rfl (.cell w.heap.size 34 _ (0, 0) _ rfl (by repeat (first | exact blk_new' (by simp) | refine blk_alloc ?_ _)) rfl rfl rfl .nil)) rfl ?_
 refine ⟨_, _, _, _, _, _, rfl, ?_, ?_, ?_, ?_⟩
 ·exact C_46 (xs := trialLots) (by repeat (first | exact blk_new' (by simp) | refine blk_alloc ?_ _)) (by decide)
 ·exact C_ints (xs := trialSamples) (by repeat (first | exact blk_new' (by simp) | refine blk_alloc ?_ _)) (by decide)
 ·refine C_blk (xs := trialLabs) (t := 75) (by repeat (first | exact blk_new' (by simp) | refine blk_alloc ?_ _)) (by decide) (fun j => [.int .i64 (trialLabs.getD j z75).f0, .slice (some ⟨w.heap.size + 3 + j, 0, none⟩) 3 3]) (fun j p hj => ?_)
  match j, hj with
  | 0, hj =>
   cases hj
   exact ⟨rfl, k75_mk _ _ (by decide) (C_ints (xs := [120, 122, 230]) (by repeat (first | exact blk_new' (by simp) | refine blk_alloc ?_ _)) (by decide)), fun i u hu => by match i, hu with | 0, hu => exact hu | 1, hu => exact hu⟩
  | 1, hj =>
   cases hj
   exact ⟨rfl, k75_mk _ _ (by decide) (C_ints (xs := [124, 121, 234]) (by repeat (first | exact blk_new' (by simp) | refine blk_alloc ?_ _)) (by decide)), fun i u hu => by match i, hu with | 0, hu => exact hu | 1, hu => exact hu⟩
  | 2, hj =>
   cases hj
   exact ⟨rfl, k75_mk _ _ (by decide) (C_ints (xs := [131, 133, 240]) (by repeat (first | exact blk_new' (by simp) | refine blk_alloc ?_ _)) (by decide)), fun i u hu => by match i, hu with | 0, hu => exact hu | 1, hu => exact hu⟩
  | 3, hj =>
   cases hj
   exact ⟨rfl, k75_mk _ _ (by decide) (C_ints (xs := [-1, 118, 229]) (by repeat (first | exact blk_new' (by simp) | refine blk_alloc ?_ _)) (by decide)), fun i u hu => by match i, hu with | 0, hu => exact hu | 1, hu => exact hu⟩
 ·repeat (first | exact Below.refl _ _ | refine below_alloc ?_ _)
end Go.Proofs.Ytcpbhklaffgokaa.Q
namespace Go.Proofs.Ytcpbhklaffgokaa.Q
open Go.RowKit Go.Proofs.YtcpbhklaffgokaaW.PrintWords Go.Proofs.YtcpbhklaffgokaaW.PrintLast Go.Proofs.YtcpbhklaffgokaaW.PrintMore
attribute [local go_sem] max2_int min2_int max_two min_two max_three min_three max_four min_four
set_option linter.unusedVariables false
set_option linter.unusedSimpArgs false
def tensilelaw08_ints.l0 : Nat → List Int → List Int → Int → Option (Bool)
 | 0, _, _, _ => none
 | k + 1, x0, x1, x5 => if x5 < (x0.length : Int) then (if 0 ≤ x5 then (if x5 < (x1.length : Int) then (if (rd x0 x5) = (rd x1 x5) then (tensilelaw08_ints.l0 k x0 x1 (wrap64 (x5 + 1))) else (some false)) else (none)) else (none)) else (some true)
def tensilelaw08_ints.f (k : Nat) (l0 : List Int) (l1 : List Int) : Option (Bool) := if (l0.length : Int) = (l1.length : Int) then (tensilelaw08_ints.l0 k l0 l1 0) else (some false)
set_option maxHeartbeats 8000000 in
set_option maxRecDepth 100000 in
theorem tensilelaw08_ints.calls (k : Nat) (A0 : Option Addr) (c0 : Nat) (l0 : List Int) (A1 : Option Addr) (c1 : Nat) (l1 : List Int) (r : Bool) (w : World) (hr0 : Kd.C (Kd.int .i64) w A0 l0.length l0) (hc0 : l0.length ≤ c0) (hr1 : Kd.C (Kd.int .i64) w A1 l1.length l1) (hc1 : l1.length ≤ c1) (h : tensilelaw08_ints.f k l0 l1 = some r) :
  Calls Try.prog 30 #[.slice A0 l0.length c0, .slice A1 l1.length c1] w fun e w' => e = .returned (.bool r) ∧ Drawn0 w w' := by
 have HR0 := Aside0.mk hr0
 have HC0 := Aside0.mk hc0
 clear hr0 hc0
 have HR1 := Aside0.mk hr1
 have HC1 := Aside0.mk hc1
 clear hr1 hc1
 have H : (if (l0.length : Int) = (l1.length : Int) then (tensilelaw08_ints.l0 k l0 l1 0) else (some false)) = some r := h
 clear h
 by_cases c3 : (l0.length : Int) = (l1.length : Int)
 ·rw [if_pos c3] at H
  have c3b0 : ((l0.length : Int) == (l1.length : Int)) = true := beq_iff_eq.mpr c3
  have c3b1 : ((l0.length : Int) != (l1.length : Int)) = false := bne_eq_false_iff_eq.mpr c3
  have c3b2 : (l0.length == l1.length) = true := by first | simpa using c3 | (simp at c3 ⊢; omega)
  clear c3
  have H' := Aside0.mk H
  clear H
  go_enter Try.func30, Try.ntmps30
  go_wp2
  repeat (go_quiet (fail); try go_wp2)
  go_loopg [5] k (fun kq v5 w' => ∃ (x5_1 : Int), v5 = .int .i64 x5_1 ∧ Aside0 (tensilelaw08_ints.l0 kq l0 l1 x5_1 = some r) ∧ Aside0 (kq ≤ k) ∧ Drawn0 w w')
  case atStart => exact ⟨(0), (by first | rfl | (simp; done) | (simp [*]; done)), H', ⟨Nat.le_refl _⟩, by repeat (first | exact Drawn0.refl _ | apply Drawn0.step)⟩
  case round =>
   clear H'
   try clear c1
   try clear p2
   try clear c3
   try clear c3b0
   try clear c3b1
   try clear c3b2
   obtain ⟨x5_1, rfl, HA, HK1, ⟨m1, rfl⟩⟩ := hrel
   cases gk with
   | zero => exact absurd HA.out (by simp [tensilelaw08_ints.l0])
   | succ k1 =>
    have H := HA.out
    clear HA
    simp only [tensilelaw08_ints.l0] at H
    by_cases c4 : x5_1 < (l0.length : Int)
    ·rw [if_pos c4] at H
     have c4b0 : decide (x5_1 < (l0.length : Int)) = true := decide_eq_true c4
     clear c4
     by_cases c5 : 0 ≤ x5_1
     ·rw [if_pos c5] at H
      have c5b0 : decide (0 ≤ x5_1) = true := decide_eq_true c5
      clear c5
      by_cases c6 : x5_1 < (l1.length : Int)
      ·rw [if_pos c6] at H
       have c6b0 : decide (x5_1 < (l1.length : Int)) = true := decide_eq_true c6
       clear c6
       by_cases c7 : (rd l0 x5_1) = (rd l1 x5_1)
       ·rw [if_pos c7] at H
        have c7b0 : ((rd l0 x5_1) == (rd l1 x5_1)) = true := beq_iff_eq.mpr c7
        have c7b1 : ((rd l0 x5_1) != (rd l1 x5_1)) = false := bne_eq_false_iff_eq.mpr c7
        clear c7
        have H' := Aside0.mk H
        clear H
        have p131 : 0 ≤ (x5_1 : Int) := of_decide_eq_true (by first | (with_reducible assumption) | assumption)
        have q131 : x5_1 < (l0.length : Int) := of_decide_eq_true (by first | (with_reducible assumption) | assumption)
        obtain ⟨ad131, e131, hx131_0⟩ := Kd.at_int HR0.out x5_1 p131 q131
        cases e131
        replace p131 := eq_true p131
        replace q131 := eq_true q131
        have p132 : 0 ≤ (x5_1 : Int) := of_decide_eq_true (by first | (with_reducible assumption) | assumption)
        have q132 : x5_1 < (l1.length : Int) := of_decide_eq_true (by first | (with_reducible assumption) | assumption)
        obtain ⟨ad132, e132, hx132_0⟩ := Kd.at_int HR1.out x5_1 p132 q132
        cases e132
        replace p132 := eq_true p132
        replace q132 := eq_true q132
        go_wp2
        repeat (go_quiet (fail); try go_wp2)
        go_roundg k1
        case measure => have := HK1.out; omega
        case rel => exact ⟨(wrap64 (x5_1 + 1)), (by first | rfl | (simp; done) | (simp [*]; done)), H', ⟨by have := HK1.out; omega⟩, by repeat (first | exact Drawn0.refl _ | apply Drawn0.step)⟩
       ·rw [if_neg c7] at H
        have c7b0 : ((rd l0 x5_1) == (rd l1 x5_1)) = false := beq_eq_false_iff_ne.mpr c7
        have c7b1 : ((rd l0 x5_1) != (rd l1 x5_1)) = true := bne_iff_ne.mpr c7
        obtain rfl := Option.some.inj H
        have p131 : 0 ≤ (x5_1 : Int) := of_decide_eq_true (by first | (with_reducible assumption) | assumption)
        have q131 : x5_1 < (l0.length : Int) := of_decide_eq_true (by first | (with_reducible assumption) | assumption)
        obtain ⟨ad131, e131, hx131_0⟩ := Kd.at_int HR0.out x5_1 p131 q131
        cases e131
        replace p131 := eq_true p131
        replace q131 := eq_true q131
        have p132 : 0 ≤ (x5_1 : Int) := of_decide_eq_true (by first | (with_reducible assumption) | assumption)
        have q132 : x5_1 < (l1.length : Int) := of_decide_eq_true (by first | (with_reducible assumption) | assumption)
        obtain ⟨ad132, e132, hx132_0⟩ := Kd.at_int HR1.out x5_1 p132 q132
        cases e132
        replace p132 := eq_true p132
        replace q132 := eq_true q132
        go_wp2
        repeat (go_quiet (fail); try go_wp2)
        go_ret
        exact ⟨by first | rfl | (simp; done) | (simp [*]; done), by repeat (first | exact Drawn0.refl _ | apply Drawn0.step)⟩
      ·rw [if_neg c6] at H
       exact absurd H (by simp)
     ·rw [if_neg c5] at H
      exact absurd H (by simp)
    ·rw [if_neg c4] at H
     have c4b0 : decide (x5_1 < (l0.length : Int)) = false := decide_eq_false c4
     clear c4
     obtain rfl := Option.some.inj H
     go_wp2
     repeat (go_quiet (fail); try go_wp2)
     go_ret
     exact ⟨by first | rfl | (simp; done) | (simp [*]; done), by repeat (first | exact Drawn0.refl _ | apply Drawn0.step)⟩
 ·rw [if_neg c3] at H
  have c3b0 : ((l0.length : Int) == (l1.length : Int)) = false := beq_eq_false_iff_ne.mpr c3
  have c3b1 : ((l0.length : Int) != (l1.length : Int)) = true := bne_iff_ne.mpr c3
  have c3b2 : (l0.length == l1.length) = false := by first | simpa using c3 | (simp at c3 ⊢; omega)
  obtain rfl := Option.some.inj H
  go_enter Try.func30, Try.ntmps30
  go_wp2
  repeat (go_quiet (fail); try go_wp2)
  go_ret
  exact ⟨by first | rfl | (simp; done) | (simp [*]; done), by repeat (first | exact Drawn0.refl _ | apply Drawn0.step)⟩
end Go.Proofs.Ytcpbhklaffgokaa.Q
namespace Go.Proofs.Ytcpbhklaffgokaa.Q
open Go.RowKit Go.Proofs.YtcpbhklaffgokaaW.PrintWords Go.Proofs.YtcpbhklaffgokaaW.PrintLast Go.Proofs.YtcpbhklaffgokaaW.PrintMore
set_option linter.unusedVariables false
set_option linter.unusedSimpArgs false
def RetB (w : World) (v : Value) (e : Ending) (w' : World) : Prop := e = .returned v ∧ Below w.heap.size w w'
theorem wake_e1 (A0 A1 A3 : Option Addr) (c0 c1 c3 : Nat) (w : World) (hr0 : Kd.C k46 w A0 2 trialLots) (hr1 : (Kd.int .i64).C w A1 3 trialSamples) (hr3 : Kd.C k75 w A3 4 trialLabs) : Calls Try.prog 21 #[.agg #[.slice A0 2 c0, .slice A1 3 c1, .int .i64 2, .slice A3 4 c3], .slice none 0 0] w (RetB w (.tuple #[.bool false, .int .i64 0])) := by
 have h := explains_any A0 c0 trialLots A1 c1 trialSamples 2 A3 c3 trialLabs none 0 [] w hr0 hr1 hr3 (Kd.C_nil _ _) (by decide)
 rw [trial_pure.2.1] at h
 exact h
theorem wake_e2 (A0 A1 A3 : Option Addr) (c0 c1 c3 : Nat) (w : World) (hr0 : Kd.C k46 w A0 2 trialLots) (hr1 : (Kd.int .i64).C w A1 3 trialSamples) (hr3 : Kd.C k75 w A3 4 trialLabs) (g : Nat) (hg : w.heap[g]? = some (.cells #[.int .i64 2] 3 (0, 0))) : Calls Try.prog 21 #[.agg #[.slice A0 2 c0, .slice A1 3 c1, .int .i64 2, .slice A3 4 c3], .slice (some ⟨g, 0, none⟩) 1 1] w (RetB w (.tuple #[.bool true, .int .i64 0])) := by
 have h := explains_any A0 c0 trialLots A1 c1 trialSamples 2 A3 c3 trialLabs (some ⟨g, 0, none⟩) 1 [2] w hr0 hr1 hr3 (C_ints (xs := [2]) hg (by decide)) (by decide)
 rw [trial_pure.2.2.1] at h
 exact h
def WakeS (w : World) (e : Ending) (w' : World) : Prop := ∃ g c : Nat, e = .returned (.tuple #[.slice (some ⟨g, 0, none⟩) 3 c, .int .i64 0]) ∧ (w'.cell? ⟨g, 0, none⟩ = some (.int .i64 121) ∧ w'.cell? ⟨g, 1, none⟩ = some (.int .i64 123) ∧ w'.cell? ⟨g, 2, none⟩ = some (.int .i64 119) ∧ w'.cell? ⟨g, 3, none⟩ = some (.int .i64 123) ∧ w'.cell? ⟨g, 4, none⟩ = some (.int .i64 231) ∧ w'.cell? ⟨g, 5, none⟩ = some (.int .i64 233)) ∧ Below w.heap.size w w'
theorem wake_s (A0 A1 A3 : Option Addr) (c0 c1 c3 : Nat) (w : World) (hr0 : Kd.C k46 w A0 2 trialLots) (hr1 : (Kd.int .i64).C w A1 3 trialSamples) (hr3 : Kd.C k75 w A3 4 trialLabs) (g : Nat) (hg : w.heap[g]? = some (.cells #[.int .i64 2] 3 (0, 0))) : Calls Try.prog 26 #[.agg #[.slice A0 2 c0, .slice A1 3 c1, .int .i64 2, .slice A3 4 c3], .slice (some ⟨g, 0, none⟩) 1 1] w (WakeS w) := by
 have h := Spans_any A0 c0 trialLots A1 c1 trialSamples 2 A3 c3 trialLabs (some ⟨g, 0, none⟩) 1 [2] w hr0 hr1 hr3 (C_ints (xs := [2]) hg (by decide)) (by decide)
 rw [trial_pure.2.2.2.1] at h
 refine h.mono ?_
 rintro e w' ⟨v, rfl, hv, hb⟩
 obtain ⟨g1, cap, rfl, _⟩ := Kd.R_form hv (by decide)
 have hC := (Kd.R_reads' hv).2.2
 obtain ⟨ad, e0, a0, a1⟩ := at_T46 hC 0 (by decide) (by decide)
 obtain ⟨ad1, e1, b0, b1⟩ := at_T46 hC 1 (by decide) (by decide)
 obtain ⟨ad2, e2, d0, d1⟩ := at_T46 hC 2 (by decide) (by decide)
 cases e0
 cases e1
 cases e2
 exact ⟨g1, cap, rfl, ⟨a0, a1, b0, b1, d0, d1⟩, hb⟩
def WakeL (w : World) (e : Ending) (w' : World) : Prop := ∃ g c : Nat, 1 ≤ c ∧ e = .returned (.tuple #[.slice (some ⟨g, 0, none⟩) 1 c, .int .i64 0]) ∧ (Kd.int .i64).C w' (some ⟨g, 0, none⟩) 1 [2] ∧ Below w.heap.size w w'
set_option maxRecDepth 100000 in
theorem trial_few : 0 < (fewestF trialLots trialSamples 2 trialLabs).length := of_decide_eq_true (by kernel_rfl)
theorem wake_l (A0 A1 A3 : Option Addr) (c0 c1 c3 : Nat) (w : World) (hr0 : Kd.C k46 w A0 2 trialLots) (hr1 : (Kd.int .i64).C w A1 3 trialSamples) (hr3 : Kd.C k75 w A3 4 trialLabs) : Calls Try.prog 29 #[.agg #[.slice A0 2 c0, .slice A1 3 c1, .int .i64 2, .slice A3 4 c3]] w (WakeL w) := by
 have h := Least_any A0 c0 trialLots A1 c1 trialSamples 2 A3 c3 trialLabs w hr0 hr1 hr3 (fun _ => trial_few)
 rw [trial_pure.2.2.2.2] at h
 refine h.mono ?_
 rintro e w' ⟨v, rfl, hv, hb⟩
 obtain ⟨g1, cap, rfl, _⟩ := Kd.R_form hv (by decide)
 exact ⟨g1, cap, (Kd.R_reads' hv).2.1, rfl, (Kd.R_reads' hv).2.2, hb⟩
theorem wake_h (A0 A1 A3 : Option Addr) (c0 c1 c3 : Nat) (w : World) (hr0 : Kd.C k46 w A0 2 trialLots) (hr1 : (Kd.int .i64).C w A1 3 trialSamples) (hr3 : Kd.C k75 w A3 4 trialLabs) : Calls Try.prog 32 #[.agg #[.slice A0 2 c0, .slice A1 3 c1, .int .i64 2, .slice A3 4 c3], .int .i64 2] w (RetB w (.tuple #[.agg #[.int .i64 8, .int .i64 11], .int .i64 0])) := by
 have h := shifts_any A0 c0 trialLots A1 c1 trialSamples 2 A3 c3 trialLabs 2 w hr0 hr1 hr3
 rw [trial_shifts] at h
 exact h
theorem wake_i (g g1 c : Nat) (w : World) (hc : 1 ≤ c) (h0 : (Kd.int .i64).C w (some ⟨g, 0, none⟩) 1 [2]) (h1 : w.heap[g1]? = some (.cells #[.int .i64 2] 3 (0, 0))) :
  Calls Try.prog 30 #[.slice (some ⟨g, 0, none⟩) 1 c, .slice (some ⟨g1, 0, none⟩) 1 1] w fun e w' => e = .returned (.bool true) ∧ Drawn0 w w' :=
 tensilelaw08_ints.calls 5 _ c [2] _ 1 [2] true w h0 hc (C_ints (xs := [2]) h1 (by decide)) (by decide) (by kernel_rfl)
set_option maxHeartbeats 4000000 in
set_option maxRecDepth 100000 in
theorem wakes_any (w : World) : Calls Try.prog 18 #[] w (RetB w (.bool true)) := by
 have HB := Aside0.mk (Below.refl w.heap.size w)
 go_enter Try.func18, Try.ntmps18
 go_wp2_with (first | (go_at_call 40; (with_reducible refine (trial_any _).mono ?_); rintro e wa ⟨A0, A1, A3, c0, c1, c3, rfl, ha0, ha1, ha3, hb⟩; replace ha0 := Aside0.mk ha0; replace ha1 := Aside0.mk ha1; replace ha3 := Aside0.mk ha3; replace HB := Aside0.mk (below_step HB.out hb); clear hb) | (go_at_call 21; first | ((with_reducible refine (wake_e1 A0 A1 A3 c0 c1 c3 _ ha0.out ha1.out ha3.out).mono ?_); rintro e wb ⟨rfl, hb⟩; replace HB := Aside0.mk (below_step HB.out hb); clear hb ha0 ha1 ha3) | ((with_reducible refine (wake_e2 A0 A1 A3 c0 c1 c3 _ (Kd.C_alloc ha0.out _) (Kd.C_alloc ha1.out _) (Kd.C_alloc ha3.out _) _ (blk_new _ _)).mono ?_); rintro e wb ⟨rfl, hb⟩; replace HB := Aside0.mk (below_step (below_alloc HB.out _) hb); clear hb ha0 ha1 ha3)) | (go_at_call 26; refine Aside0.out ?_))
 refine ⟨?_⟩
 refine (wake_s A0 A1 A3 c0 c1 c3 _ (Kd.C_alloc ha0.out _) (Kd.C_alloc ha1.out _) (Kd.C_alloc ha3.out _) _ (blk_new _ _)).mono ?_
 rintro e wd ⟨gs, cs, rfl, hs, hb⟩
 replace HB := Aside0.mk (below_step (below_alloc HB.out _) hb)
 replace hs := Aside0.mk hs
 clear hb ha0 ha1 ha3
 have HM := Aside0.mk (fun (w' : World) (h : Below wd.heap.size wd w') => (⟨(h.cell (World.block_lt_of_cell? _ _ hs.out.1)).trans hs.out.1, (h.cell (World.block_lt_of_cell? _ _ hs.out.2.1)).trans hs.out.2.1, (h.cell (World.block_lt_of_cell? _ _ hs.out.2.2.1)).trans hs.out.2.2.1, (h.cell (World.block_lt_of_cell? _ _ hs.out.2.2.2.1)).trans hs.out.2.2.2.1, (h.cell (World.block_lt_of_cell? _ _ hs.out.2.2.2.2.1)).trans hs.out.2.2.2.2.1, (h.cell (World.block_lt_of_cell? _ _ hs.out.2.2.2.2.2)).trans hs.out.2.2.2.2.2⟩ : w'.cell? ⟨gs, 0, none⟩ = some (.int .i64 121) ∧ w'.cell? ⟨gs, 1, none⟩ = some (.int .i64 123) ∧ w'.cell? ⟨gs, 2, none⟩ = some (.int .i64 119) ∧ w'.cell? ⟨gs, 3, none⟩ = some (.int .i64 123) ∧ w'.cell? ⟨gs, 4, none⟩ = some (.int .i64 231) ∧ w'.cell? ⟨gs, 5, none⟩ = some (.int .i64 233)))
 have HD := Aside0.mk (Below.refl wd.heap.size wd)
 go_wp2_with (first | (go_at_call 40; (with_reducible refine (trial_any _).mono ?_); rintro e wa ⟨A0, A1, A3, c0, c1, c3, rfl, ha0, ha1, ha3, hb⟩; replace ha0 := Aside0.mk ha0; replace ha1 := Aside0.mk ha1; replace ha3 := Aside0.mk ha3; replace HD := Aside0.mk (below_step HD.out hb); (try replace HL := Aside0.mk (below_step HL.out hb)); clear hb) | (go_at_call 29; (with_reducible refine (wake_l A0 A1 A3 c0 c1 c3 _ ha0.out ha1.out ha3.out).mono ?_); rintro e we ⟨gl, cl, hcl, rfl, hl, hb⟩; replace HD := Aside0.mk (below_step HD.out hb); replace hl := Aside0.mk hl; replace hcl := Aside0.mk hcl; have HL := Aside0.mk (Below.refl we.heap.size we); clear hb ha0 ha1 ha3) | (go_at_call 32; refine Aside0.out ?_))
 refine ⟨?_⟩
 refine (wake_h A0 A1 A3 c0 c1 c3 _ ha0.out ha1.out ha3.out).mono ?_
 rintro e wf ⟨rfl, hb⟩
 replace HL := Aside0.mk (Kd.C_below hl.out (below_alloc (below_step HL.out hb) (.cells #[.int .i64 8, .int .i64 11] 46)))
 replace HD := Aside0.mk (below_alloc (below_step HD.out hb) (.cells #[.int .i64 8, .int .i64 11] 46))
 have HBF := Aside0.mk (below_step HB.out HD.out)
 have B9 := Aside0.mk (blk_new wf (.cells #[.int .i64 8, .int .i64 11] 46))
 obtain ⟨s0, s1, s2, s3, s4, s5⟩ := HM.out _ HD.out
 have hcl1 := hcl.out
 clear hb ha0 ha1 ha3 hs HM HB HD hl hcl
 go_wp2_with fail
 refine (wake_i gl (wf.heap.size + 1) cl _ hcl1 (Kd.C_alloc HL.out _) (blk_new' (by simp))).mono ?_
 replace B9 := Aside0.mk (blk_alloc B9.out (.cells #[.int .i64 2] 3))
 replace HBF := Aside0.mk (below_alloc HBF.out (.cells #[.int .i64 2] 3))
 clear s0 s1 s2 s3 s4 s5 HL hcl1
 generalize (wf.alloc (.cells #[.int .i64 8, .int .i64 11] 46)).alloc (.cells #[.int .i64 2] 3) = wg at B9 HBF ⊢
 rintro e wh ⟨rfl, hd⟩
 have hbd := hd.below
 replace B9 := Aside0.mk (blk_below B9.out hbd)
 replace HBF := Aside0.mk (below_step HBF.out hbd)
 clear hd hbd
 obtain ⟨q0, q1⟩ := cells2 B9.out
 go_wp2
 go_ret
 exact ⟨rfl, HBF.out⟩
end Go.Proofs.Ytcpbhklaffgokaa.Q
namespace Go.Proofs.Ytcpbhklaffgokaa.Q
open Go.RowKit Go.Proofs.YtcpbhklaffgokaaW.PrintWords Go.Proofs.YtcpbhklaffgokaaW.PrintLast Go.Proofs.YtcpbhklaffgokaaW.PrintMore
set_option linter.unusedVariables false
end Go.Proofs.Ytcpbhklaffgokaa.Q
namespace Go.Proofs.Ytcpbhklaffgokaa.Q
open Go.RowKit Go.Proofs.YtcpbhklaffgokaaW.PrintWords Go.Proofs.YtcpbhklaffgokaaW.PrintLast Go.Proofs.YtcpbhklaffgokaaW.PrintMore
attribute [local go_sem] max2_int min2_int max_two min_two max_three min_three max_four min_four
set_option linter.unusedVariables false
set_option linter.unusedSimpArgs false
end Go.Proofs.Ytcpbhklaffgokaa.Q
namespace Go.Proofs.Ytcpbhklaffgokaa.Q
open Go.RowKit Go.Proofs.YtcpbhklaffgokaaW.PrintWords Go.Proofs.YtcpbhklaffgokaaW.PrintLast Go.Proofs.YtcpbhklaffgokaaW.PrintMore
attribute [local go_sem] max2_int min2_int max_two min_two max_three min_three max_four min_four
set_option linter.unusedVariables false
set_option linter.unusedSimpArgs false
end Go.Proofs.Ytcpbhklaffgokaa.Q
namespace Go.Proofs.Ytcpbhklaffgokaa.Q
open Go.RowKit Go.Proofs.YtcpbhklaffgokaaW.PrintWords Go.Proofs.YtcpbhklaffgokaaW.PrintLast Go.Proofs.YtcpbhklaffgokaaW.PrintMore
set_option linter.unusedVariables false
set_option linter.unusedSimpArgs false
section
variable (lots : List S44) (samples : List Int) (spread : Int) (labs : List S62)
end
end Go.Proofs.Ytcpbhklaffgokaa.Q
namespace Go.Proofs.Ytcpbhklaffgokaa.Q
open Go.RowKit Go.Proofs.YtcpbhklaffgokaaW.PrintWords Go.Proofs.YtcpbhklaffgokaaW.PrintLast Go.Proofs.YtcpbhklaffgokaaW.PrintMore
attribute [local go_sem] max2_int min2_int max_two min_two max_three min_three max_four min_four
set_option linter.unusedVariables false
set_option linter.unusedSimpArgs false
end Go.Proofs.Ytcpbhklaffgokaa.Q
namespace Go.Proofs.Ytcpbhklaffgokaa.Q
open Go.RowKit Go.Proofs.YtcpbhklaffgokaaW.PrintWords Go.Proofs.YtcpbhklaffgokaaW.PrintLast Go.Proofs.YtcpbhklaffgokaaW.PrintMore
attribute [local go_sem] max2_int min2_int max_two min_two max_three min_three max_four min_four
set_option linter.unusedVariables false
set_option linter.unusedSimpArgs false
end Go.Proofs.Ytcpbhklaffgokaa.Q
namespace Go.Proofs.Ytcpbhklaffgokaa.Q
open Go.RowKit Go.Proofs.YtcpbhklaffgokaaW.PrintWords Go.Proofs.YtcpbhklaffgokaaW.PrintLast Go.Proofs.YtcpbhklaffgokaaW.PrintMore
attribute [local go_sem] max2_int min2_int max_two min_two max_three min_three max_four min_four
set_option linter.unusedVariables false
set_option linter.unusedSimpArgs false
end Go.Proofs.Ytcpbhklaffgokaa.Q
namespace Go.Proofs.Ytcpbhklaffgokaa.Q
open Go.RowKit Go.Proofs.YtcpbhklaffgokaaW.PrintWords Go.Proofs.YtcpbhklaffgokaaW.PrintLast Go.Proofs.YtcpbhklaffgokaaW.PrintMore
set_option linter.unusedVariables false
set_option linter.unusedSimpArgs false
end Go.Proofs.Ytcpbhklaffgokaa.Q
namespace Go.Proofs.Ytcpbhklaffgokaa.Q
open Go.RowKit Go.Proofs.YtcpbhklaffgokaaW.PrintWords Go.Proofs.YtcpbhklaffgokaaW.PrintLast Go.Proofs.YtcpbhklaffgokaaW.PrintMore
attribute [local go_sem] max2_int min2_int max_two min_two
set_option linter.unusedVariables false
set_option linter.unusedSimpArgs false
section
variable (lots : List S44) (samples : List Int) (spread : Int) (labs : List S62)
end
end Go.Proofs.Ytcpbhklaffgokaa.Q
namespace Go.Proofs.Ytcpbhklaffgokaa.Q
open Go.RowKit Go.Proofs.YtcpbhklaffgokaaW.PrintWords Go.Proofs.YtcpbhklaffgokaaW.PrintLast Go.Proofs.YtcpbhklaffgokaaW.PrintMore
set_option linter.unusedVariables false
set_option linter.unusedSimpArgs false
section
variable {lots : List S46} {samples : List Int} {spread : Int} {labs : List S75}
end
end Go.Proofs.Ytcpbhklaffgokaa.Q
namespace Go.Proofs.Ytcpbhklaffgokaa.Q
open Go.RowKit Go.Proofs.YtcpbhklaffgokaaW.PrintWords Go.Proofs.YtcpbhklaffgokaaW.PrintLast Go.Proofs.YtcpbhklaffgokaaW.PrintMore
set_option linter.unusedVariables false
set_option linter.unusedSimpArgs false
section
variable {lots : List S46} {samples : List Int} {spread : Int} {labs : List S75}
end
end Go.Proofs.Ytcpbhklaffgokaa.Q
namespace Go.Proofs.Ytcpbhklaffgokaa.Q
open Go.RowKit Go.Proofs.YtcpbhklaffgokaaW.PrintWords Go.Proofs.YtcpbhklaffgokaaW.PrintLast Go.Proofs.YtcpbhklaffgokaaW.PrintMore
set_option linter.unusedVariables false
set_option linter.unusedSimpArgs false
theorem In26.below {W W' : World} {v : Value} {A0 : Option Addr} {c0 : Nat} {lots : List S44} {A1 : Option Addr} {c1 : Nat} {samples : List Int} {spread : Int} {A3 : Option Addr} {c3 : Nat} {labs : List S62} (h : In26 W v A0 c0 lots A1 c1 samples spread A3 c3 labs) (hb : Below W.heap.size W W') : In26 W' v A0 c0 lots A1 c1 samples spread A3 c3 labs :=
 ⟨h.eq, Kd.C_below h.r0 hb, h.h0, Kd.C_below h.r1 hb, h.h1, Kd.C_below h.r3 hb, h.h3, h.a, h.b, h.c, h.d⟩
theorem In26.sz {W : World} {v : Value} {A0 : Option Addr} {c0 : Nat} {lots : List S44} {A1 : Option Addr} {c1 : Nat} {samples : List Int} {spread : Int} {A3 : Option Addr} {c3 : Nat} {labs : List S62} (h : In26 W v A0 c0 lots A1 c1 samples spread A3 c3 labs) : Sz lots samples labs := ⟨h.a, h.b, h.c, h.d⟩
def In34 (W : World) (u : Value) (lots : List S46) (samples : List Int) (spread : Int) (labs : List S75) : Prop :=
 ∃ A0 c0 A1 c1 A3 c3, u = .agg #[.slice A0 lots.length c0, .slice A1 samples.length c1, .int .i64 spread, .slice A3 labs.length c3] ∧ Kd.C k46 W A0 lots.length lots ∧ (Kd.int .i64).C W A1 samples.length samples ∧ Kd.C k75 W A3 labs.length labs
theorem In34.below {W W' : World} {u : Value} {lots : List S46} {samples : List Int} {spread : Int} {labs : List S75} (h : In34 W u lots samples spread labs) (hb : Below W.heap.size W W') : In34 W' u lots samples spread labs := by
 obtain ⟨A0, c0, A1, c1, A3, c3, e, h0, h1, h3⟩ := h
 exact ⟨A0, c0, A1, c1, A3, c3, e, Kd.C_below h0 hb, Kd.C_below h1 hb, Kd.C_below h3 hb⟩
def InL (W : World) (u : Value) (l : List Int) : Prop := ∃ A c, u = .slice A l.length c ∧ l.length ≤ c ∧ (Kd.int .i64).C W A l.length l
theorem InL.below {W W' : World} {u : Value} {l : List Int} (h : InL W u l) (hb : Below W.heap.size W W') : InL W' u l := by
 obtain ⟨A, c, e, hc, h0⟩ := h
 exact ⟨A, c, e, hc, Kd.C_below h0 hb⟩
theorem InL.ofR {W : World} {u : Value} {l : List Int} {base : Nat} {ok : Nat → Prop} (h : Kd.R (Kd.int .i64) 3 W base ok u l) : InL W u l := by
 obtain ⟨A, c, e, hc, h0⟩ := Kd.R_reads h
 exact ⟨A, c, e, hc, h0⟩
theorem InL.nil (W : World) : InL W (.slice none 0 0) [] := ⟨none, 0, rfl, Nat.le_refl _, Kd.C_nil _ _⟩
theorem InL.one {W : World} {g : Nat} {n : Int} (h : W.heap[g]? = some (.cells #[.int .i64 n] 3 (0, 0))) : InL W (.slice (some ⟨g, 0, none⟩) 1 1) [n] := ⟨some ⟨g, 0, none⟩, 1, rfl, Nat.le_refl _, C_ints (xs := [n]) h (by simp)⟩
section
variable {W : World} {v : Value} {A0 : Option Addr} {c0 : Nat} {lots : List S44} {A1 : Option Addr} {c1 : Nat} {samples : List Int} {spread : Int} {A3 : Option Addr} {c3 : Nat} {labs : List S62}
end
section
variable {W : World} {u x : Value} {lots : List S46} {samples : List Int} {spread : Int} {labs : List S75} {l : List Int}
theorem shifts_at (h : In34 W u lots samples spread labs) (lab : Int) : Calls Try.prog 32 #[u, .int .i64 lab] W (ShPost W (shiftsF lots samples spread labs lab)) := by
 obtain ⟨A0, c0, A1, c1, A3, c3, rfl, h0, h1, h3⟩ := h
 exact shifts_any A0 c0 lots A1 c1 samples spread A3 c3 labs lab W h0 h1 h3
theorem explains_at (h : In34 W u lots samples spread labs) (hx : InL W x l) (hl : l.length < 17592186044416) : Calls Try.prog 21 #[u, x] W (RetB W (.tuple #[.bool (explainsF lots samples spread labs l).1, .int .i64 (explainsF lots samples spread labs l).2])) := by
 obtain ⟨A0, c0, A1, c1, A3, c3, rfl, h0, h1, h3⟩ := h
 obtain ⟨B, cB, rfl, hc, hC⟩ := hx
 exact explains_any A0 c0 lots A1 c1 samples spread A3 c3 labs B cB l W h0 h1 h3 hC hl
def In46 (W : World) (y : Value) (r : List S46) : Prop := ∃ A c, y = .slice A r.length c ∧ r.length ≤ c ∧ Kd.C k46 W A r.length r
theorem In46.below {W W' : World} {y : Value} {r : List S46} (h : In46 W y r) (hb : Below W.heap.size W W') : In46 W' y r := by
 obtain ⟨A, c, e, hc, h0⟩ := h
 exact ⟨A, c, e, hc, Kd.C_below h0 hb⟩
def GetsE (w : World) (P : World → Value → Prop) (er : Int) (e : Ending) (w' : World) : Prop := ∃ y : Value, e = .returned (.tuple #[y, .int .i64 er]) ∧ P w' y ∧ Below w.heap.size w w'
theorem spans_at (h : In34 W u lots samples spread labs) (hx : InL W x l) (hl : l.length < 17592186044416) : Calls Try.prog 26 #[u, x] W (GetsE W (fun w' y => In46 w' y (spansR lots samples spread labs l).1) (spansR lots samples spread labs l).2) := by
 obtain ⟨A0, c0, A1, c1, A3, c3, rfl, h0, h1, h3⟩ := h
 obtain ⟨B, cB, rfl, hc, hC⟩ := hx
 refine (Spans_any A0 c0 lots A1 c1 samples spread A3 c3 labs B cB l W h0 h1 h3 hC hl).mono ?_
 rintro e w' ⟨y, rfl, hy, hb⟩
 obtain ⟨A, c, rfl, hc', h0'⟩ := Kd.R_reads hy
 exact ⟨_, rfl, ⟨A, c, rfl, hc', h0'⟩, hb⟩
theorem least_at (h : In34 W u lots samples spread labs) : Calls Try.prog 29 #[u] W (GetsE W (fun w' y => InL w' y (leastF lots samples spread labs).1) (leastF lots samples spread labs).2) := by
 obtain ⟨A0, c0, A1, c1, A3, c3, rfl, h0, h1, h3⟩ := h
 refine (Least_any A0 c0 lots A1 c1 samples spread A3 c3 labs W h0 h1 h3 fewest_some).mono ?_
 rintro e w' ⟨y, rfl, hy, hb⟩
 exact ⟨_, rfl, InL.ofR hy, hb⟩
theorem convicted_at (h : In34 W u lots samples spread labs) : Calls Try.prog 38 #[u] W (GetsE W (fun w' y => InL w' y (convF lots samples spread labs).1) (convF lots samples spread labs).2) := by
 obtain ⟨A0, c0, A1, c1, A3, c3, rfl, h0, h1, h3⟩ := h
 refine (Convicted_any A0 c0 lots A1 c1 samples spread A3 c3 labs W h0 h1 h3 fewest_some).mono ?_
 rintro e w' ⟨y, rfl, hy, hb⟩
 exact ⟨_, rfl, InL.ofR hy, hb⟩
theorem check_at (h : In34 W u lots samples spread labs) : Calls Try.prog 19 #[u] W (RetB W (.int .i64 (checkRound lots samples spread labs))) := by
 obtain ⟨A0, c0, A1, c1, A3, c3, rfl, h0, h1, h3⟩ := h
 exact check_any A0 c0 lots A1 c1 samples spread A3 c3 labs W h0 h1 h3
end
end Go.Proofs.Ytcpbhklaffgokaa.Q
