import Derived.WalkMore
import Derived.Test.YtcpbhklaffgokaaC14x7
namespace Go.Proofs.Ytcpbhklaffgokaa.Q
open Go.RowKit Go.Proofs.YtcpbhklaffgokaaW.PrintWords Go.Proofs.YtcpbhklaffgokaaW.PrintLast Go.Proofs.YtcpbhklaffgokaaW.PrintMore
set_option linter.unusedVariables false
set_option linter.unusedSimpArgs false
attribute [local go_sem] Oper.semAt_some
def cutR (r o : S46) : S46 := ⟨max r.f0 o.f0, min r.f1 o.f1⟩
def widR (r : S46) (n : Int) : S46 := ⟨r.f0 - n, r.f1 + n⟩
def emptyR (r : S46) : Bool := decide (r.f1 < r.f0)
def far2 : S46 := ⟨-1073741824, 1073741824⟩
def sampR (labs : List S75) (o : Nat → Bool) (lab d i : Int) : S46 := (readsFrom o lab d i 0 labs).foldl cutR far2
def spansFrom (labs : List S75) (spread : Int) (o : Nat → Bool) (lab d : Int) : Nat → List Int → List S46 → List S46 → Option (List S46 × List S46)
 | _, [], lots, out => some (lots, out)
 | i, s :: ss, lots, out =>
  let r := sampR labs o lab d i
  if emptyR r = true then none else spansFrom labs spread o lab d (i + 1) ss (lots.set s.toNat (cutR (lots.getD s.toNat z46) (widR r spread))) (out ++ [r])
def spansOut (spread : Int) (lots : List S46) : List S46 → List Int → List S46
 | r :: rs, s :: ss => cutR r (widR (lots.getD s.toNat z46) spread) :: spansOut spread lots rs ss
 | _, _ => []
def spansF (lots : List S46) (samples : List Int) (spread : Int) (labs : List S75) (o : Nat → Bool) (lab d : Int) : List S46 × Bool :=
 match spansFrom labs spread o lab d 0 samples lots [] with
 | none => ([], false)
 | some (lots', out) => (spansOut spread lots' out samples, !lots'.any emptyR)
structure RoundOk (lots : List S46) (samples : List Int) (spread : Int) (labs : List S75) : Prop where
 l0 : 0 < lots.length
 l4 : lots.length ≤ 4
 s8 : samples.length ≤ 8
 b6 : labs.length ≤ 6
 lot : ∀ x ∈ lots, 0 ≤ x.f0 ∧ x.f0 ≤ x.f1 ∧ x.f1 ≤ 1000
 smp : ∀ x ∈ samples, 0 ≤ x ∧ x < lots.length
 sp0 : 0 ≤ spread
 sp1 : spread ≤ 100
 labs : ∀ x ∈ labs, LabOk samples.length x
structure JAt (w : World) (jb : Nat) (A0 : Option Addr) (c0 : Nat) (lots : List S46) (A1 : Option Addr) (c1 : Nat) (samples : List Int) (spread : Int) (A3 : Option Addr) (c3 : Nat) (labs : List S75) (mp : Value) : Prop where
 blk : w.heap[jb]? = some (.cells #[.slice A0 lots.length c0, .slice A1 samples.length c1, .int .i64 spread, .slice A3 labs.length c3, mp] 107 (0, 0))
 lots : Kd.C k46 w A0 lots.length lots
 samples : (Kd.int .i64).C w A1 samples.length samples
 labs : Kd.C k75 w A3 labs.length labs
theorem JAt.below {w w' : World} {jb : Nat} {A0 : Option Addr} {c0 : Nat} {lots : List S46} {A1 : Option Addr} {c1 : Nat} {samples : List Int} {spread : Int} {A3 : Option Addr} {c3 : Nat} {labs : List S75} {mp : Value}
  (h : JAt w jb A0 c0 lots A1 c1 samples spread A3 c3 labs mp) (hb : Below w.heap.size w w') : JAt w' jb A0 c0 lots A1 c1 samples spread A3 c3 labs mp :=
 ⟨blk_below h.blk hb, Kd.C_below h.lots hb, Kd.C_below h.samples hb, Kd.C_below h.labs hb⟩
theorem JAt.cells {w : World} {jb : Nat} {A0 : Option Addr} {c0 : Nat} {lots : List S46} {A1 : Option Addr} {c1 : Nat} {samples : List Int} {spread : Int} {A3 : Option Addr} {c3 : Nat} {labs : List S75} {mp : Value}
  (h : JAt w jb A0 c0 lots A1 c1 samples spread A3 c3 labs mp) : w.cell? ⟨jb, 0, none⟩ = some (.slice A0 lots.length c0) ∧ w.cell? ⟨jb, 1, none⟩ = some (.slice A1 samples.length c1) ∧ w.cell? ⟨jb, 2, none⟩ = some (.int .i64 spread) ∧ w.cell? ⟨jb, 3, none⟩ = some (.slice A3 labs.length c3) ∧ w.cell? ⟨jb, 4, none⟩ = some mp :=
 ⟨(blk_cell h.blk 0).trans rfl, (blk_cell h.blk 1).trans rfl, (blk_cell h.blk 2).trans rfl, (blk_cell h.blk 3).trans rfl, (blk_cell h.blk 4).trans rfl⟩
def SpansPost (r : List S46 × Bool) (w : World) (e : Ending) (w' : World) : Prop :=
 ∃ v : Value, e = .returned (.tuple #[v, .bool r.2]) ∧ Kd.R k46 46 w' w.heap.size (fun _ => True) v r.1 ∧ Below w.heap.size w w'
def marks (Ds : List Nat) : List Deferred := Ds.map fun D => { target := .collected D, args := #[] }
def Bd (r : S46) : Prop := -2000000000 ≤ r.f0 ∧ r.f0 ≤ 2000000000 ∧ -2000000000 ≤ r.f1 ∧ r.f1 ≤ 2000000000
theorem Bd.cutw {l r : S46} {s : Int} (hl : Bd l) (hr : Bd r) (hs : 0 ≤ s) : Bd (cutR l (widR r s)) := by
 unfold Bd cutR widR at *
 simp only
 omega
def DefAt (W : World) (Ds : List Nat) : Prop := ∀ D ∈ Ds, W.heap[D]? = some (.deferred (some []))
theorem DefAt.below {W W' : World} {Ds : List Nat} (h : DefAt W Ds) (hb : Below W.heap.size W W') : DefAt W' Ds := fun D hD => blk_below (h D hD) hb
theorem DefAt.set {W : World} {Ds : List Nat} (h : DefAt W Ds) {g i : Nat} {cs : Array Value} {t : TypeId} (hg : W.heap[g]? = some (.cells cs t (0, 0))) (v : Value) : DefAt (W.setCell ⟨g, i, none⟩ v) Ds := fun D hD => by
 have h1 := h D hD
 have hne : D ≠ g := fun e => by subst e; rw [h1] at hg; cases hg
 exact (Below.heap_setCell W ⟨g, i, none⟩ v D hne).trans h1
structure L1 (jb : Nat) (A0 : Option Addr) (c0 : Nat) (lots : List S46) (A1 : Option Addr) (c1 : Nat) (samples : List Int) (spread : Int) (A3 : Option Addr) (c3 : Nat) (labs : List S75) (mp : Value) (o : Nat → Bool) (lab d : Int) (w : World)
  (gl cl : Nat) (vo : Value) (x : Int) (ls outs : List S46) (Ds : List Nat) (W : World) : Prop where
 spec : spansFrom labs spread o lab d x.toNat (samples.drop x.toNat) ls outs = spansFrom labs spread o lab d 0 samples lots []
 ll : ls.length = lots.length
 lb : ∀ l ∈ ls, Bd l
 ol : (outs.length : Int) = x
 ob : ∀ l ∈ outs, Bd l
 rl : Kd.R k46 46 W w.heap.size (fun _ => True) (.slice (some ⟨gl, 0, none⟩) lots.length cl) ls
 ro : Kd.R k46 46 W w.heap.size (fun _ => True) vo outs
 ne : some gl ≠ vo.ownBlock
 bo : W.heap[w.heap.size]? = some (.cells #[.bool (o 0), .bool (o 1), .bool (o 2), .bool (o 3), .bool (o 4), .bool (o 5)] 85 (0, 0))
 bs : W.heap[w.heap.size + 1]? = some (.cells #[.int .i64 lab, .int .i64 d] 94 (0, 0))
 hb : Below w.heap.size w W
 da : DefAt W Ds
 nd : Ds.Nodup
 dg : ∀ D ∈ Ds, w.heap.size ≤ D
theorem alloc5 (W : World) (o1 o2 o3 o4 o5 : Obj) :
  (((((W.alloc o1).alloc o2).alloc o3).alloc o4).alloc o5).heap[W.heap.size]? = some o1 ∧ (((((W.alloc o1).alloc o2).alloc o3).alloc o4).alloc o5).heap[W.heap.size + 1]? = some o2 ∧
  (((((W.alloc o1).alloc o2).alloc o3).alloc o4).alloc o5).heap[W.heap.size + 1 + 1]? = some o3 ∧ (((((W.alloc o1).alloc o2).alloc o3).alloc o4).alloc o5).heap[W.heap.size + 1 + 1 + 1]? = some o4 ∧
  (((((W.alloc o1).alloc o2).alloc o3).alloc o4).alloc o5).heap[W.heap.size + 1 + 1 + 1 + 1]? = some o5 ∧ (((((W.alloc o1).alloc o2).alloc o3).alloc o4).alloc o5).heap.size = W.heap.size + 5 ∧
  Below W.heap.size W (((((W.alloc o1).alloc o2).alloc o3).alloc o4).alloc o5) := by
 have h1 := blk_alloc (blk_alloc (blk_alloc (blk_alloc (blk_new W o1) o2) o3) o4) o5
 have h2 := blk_alloc (blk_alloc (blk_alloc (blk_new (W.alloc o1) o2) o3) o4) o5
 have h3 := blk_alloc (blk_alloc (blk_new ((W.alloc o1).alloc o2) o3) o4) o5
 have h4 := blk_alloc (blk_new (((W.alloc o1).alloc o2).alloc o3) o4) o5
 have h5 := blk_new ((((W.alloc o1).alloc o2).alloc o3).alloc o4) o5
 simp only [World.size_alloc] at h1 h2 h3 h4 h5
 exact ⟨h1, h2, h3, h4, h5, by simp, below_alloc (below_alloc (below_alloc (below_alloc (below_alloc (Below.refl _ W) o1) o2) o3) o4) o5⟩
theorem ko_below {W W' : World} (hb : Below W.heap.size W W') : KeepsOthers W W' := ⟨hb.size, fun k o hk _ => blk_below hk hb⟩
def RI (R : Nat) (W0 : World) (pre : List S46) (W : World) : Prop :=
 W.heap[R]? = some (.cells #[.int .i64 (pre.foldl cutR far2).f0, .int .i64 (pre.foldl cutR far2).f1] 46 (0, 0)) ∧ Kb W0.heap.size R W0 W
theorem RI_own (R : Nat) (W0 : World) (hR : R < W0.heap.size) : OwnFrom W0.heap.size (RI R W0) := fun s A B row hs hg hr => by
 obtain ⟨h1, h2⟩ := hs
 have hne : ∀ k, k < W0.heap.size → some k ≠ row := fun k hk e => by have := (hr k e.symm).1; omega
 refine ⟨(hg.block R (blk_lt h1) (hne R hR)).trans h1, h2.trans ⟨hg.os, hg.tape, hg.output, hg.size, fun k hk _ => hg.block k (Nat.lt_of_lt_of_le hk h2.size) (hne k hk)⟩⟩
def RAx (W0 : World) (t : S46 → Nat → Array Value) (x : S46) (a : Act) (W : World) : Prop :=
 ∃ B, W0.heap.size ≤ B ∧ W.heap[B]? = some (.cells #[.int .i64 x.f0, .int .i64 x.f1] 46 (0, 0)) ∧ a = { tmps := t x B, defers := [] }
theorem RAx_own (W0 : World) (t : S46 → Nat → Array Value) (x : S46) (a : Act) : OwnFrom W0.heap.size (fun (_ : Unit) W => RAx W0 t x a W) := fun s A B row hs hg hr => by
 obtain ⟨k, h1, h2, h3⟩ := hs
 refine ⟨k, h1, (hg.block k (blk_lt h2) (fun e => ?_)).trans h2, h3⟩
 obtain ⟨_, ob, ho, hc⟩ := hr k e.symm
 rw [h2] at ho
 cases ho
 cases hc
theorem get46 {W : World} {base : Nat} {ok : Nat → Prop} {g n cap : Nat} {xs : List S46} (h : Kd.R k46 46 W base ok (.slice (some ⟨g, 0, none⟩) n cap) xs) (i : Int) (h0 : 0 ≤ i) (h1 : i < n) :
  W.cell? ⟨g, i.toNat * 2, none⟩ = some (.int .i64 (rd_T46 xs i).f0) ∧ W.cell? ⟨g, i.toNat * 2 + 1, none⟩ = some (.int .i64 (rd_T46 xs i).f1) ∧
  W.frozen? ⟨g, i.toNat * 2, none⟩ = false ∧ W.frozen? ⟨g, i.toNat * 2 + 1, none⟩ = false := by
 obtain ⟨c, hl, hM, hc, hf⟩ := Kd.R_elem h z46 i h0 h1
 obtain rfl := k46_openM hM
 exact ⟨hc 0 _ rfl, hc 1 _ rfl, hf 0, hf 1⟩
theorem set46 {W : World} {base : Nat} {ok : Nat → Prop} {g n cap : Nat} {xs : List S46} (h : Kd.R k46 46 W base ok (.slice (some ⟨g, 0, none⟩) n cap) xs) (i : Int) (h0 : 0 ≤ i) (h1 : i < n) (a b : Int) :
  Kd.R k46 46 ((W.setCell ⟨g, i.toNat * 2, none⟩ (.int .i64 a)).setCell ⟨g, i.toNat * 2 + 1, none⟩ (.int .i64 b)) base ok (.slice (some ⟨g, 0, none⟩) n cap) (xs.set i.toNat ⟨a, b⟩) := by
 obtain ⟨c, hl, hM, hc, hf⟩ := Kd.R_elem h z46 i h0 h1
 obtain rfl := k46_openM hM
 exact (Kd.R_seg h i h0 h1 (j := 0) (seg := [.int .i64 a, .int .i64 b]) (okp := fun _ => False) hl hc (Nat.le_refl 2) (x' := ⟨a, b⟩) (k46_mkM _ _ _ ⟨a, b⟩) (fun _ hk => hk.elim)).1
theorem k46_E : k46.E = [] := rfl
theorem DefAt.grown {W W' : World} {Ds : List Nat} (h : DefAt W Ds) {row : Option Nat} (hg : W.grownBy W' row) (hr : ∀ k, row = some k → ∃ cs, W.heap[k]? = some (.cells cs 46 (0, 0))) : DefAt W' Ds := fun D hD => by
 have h1 := h D hD
 refine (hg.block D (blk_lt h1) (fun e => ?_)).trans h1
 obtain ⟨cs, hc⟩ := hr D e.symm
 rw [h1] at hc
 cases hc
structure OffMarks (Ds : List Nat) (A B : World) : Prop where
 os : B.os = A.os
 tape : B.tape = A.tape
 output : B.output = A.output
 size : B.heap.size = A.heap.size
 block : ∀ k, k ∉ Ds → B.heap[k]? = A.heap[k]?
theorem leaves_marks {n : Nat} {P : Program} {fn : Func} {tmps : Array Value} {R : Ending → World → Prop} : ∀ (Ds : List Nat) (W : World), DefAt W Ds → Ds.Nodup →
  (∀ W', OffMarks Ds W W' → LeavesIn Fence.wide n P fn tmps R [] .returning W') → LeavesInM Fence.wide n P fn tmps R (marks Ds) .returning W := by
 intro Ds
 induction Ds with
 | nil => exact fun W _ _ h => h W ⟨rfl, rfl, rfl, rfl, fun _ _ => rfl⟩
 | cons D Ds ih =>
  intro W hda hnd h
  obtain ⟨hD, hnd⟩ := List.nodup_cons.1 hnd
  have h1 := hda D (List.mem_cons_self ..)
  refine ⟨by simp, .inl ⟨D, _, rfl, run_takeDeferred h1, ?_⟩⟩
  refine ih _ (fun E hE => ?_) hnd (fun W' hW' => h W' ?_)
  ·exact (World.putObj_heap_other (fun e : E = D => hD (e ▸ hE))).trans (hda E (List.mem_cons_of_mem _ hE))
  ·refine ⟨hW'.os, hW'.tape, hW'.output, hW'.size.trans (by simp), fun k hk => ?_⟩
   simp only [List.mem_cons, not_or] at hk
   exact (hW'.block k hk.2).trans (World.putObj_heap_other hk.1)
theorem OffMarks.below {Ds : List Nat} {w A B : World} (h : OffMarks Ds A B) (hb : Below w.heap.size w A) (hd : ∀ D ∈ Ds, w.heap.size ≤ D) : Below w.heap.size w B :=
 hb.trans ⟨h.os, h.tape, h.output, Nat.le_of_eq h.size.symm, fun k hk => h.block k (fun hm => by have := hd k hm; omega)⟩
theorem OffMarks.row {Ds : List Nat} {A B : World} (h : OffMarks Ds A B) (hda : DefAt A Ds) {base : Nat} {v : Value} {xs : List S46} (hr : Kd.R k46 46 A base (fun _ => True) v xs) : Kd.R k46 46 B base (fun _ => True) v xs := by
 have h1 := Kd.R_tight k46_E hr
 refine Kd.R_mono (Kd.R_move h1 (fun k hk => h.block k (fun hm => ?_))) (fun _ _ => trivial)
 obtain ⟨cs, hc⟩ := Kd.R_typed hr k hk.symm
 have := hda k hm
 rw [hc] at this
 cases this
theorem readsFrom_bd (o : Nat → Bool) (lab d i : Int) (m : Nat) (hi0 : 0 ≤ i) (hi : i < m) (hd : -2000 ≤ d) (hd' : d ≤ 2000) : ∀ (xs : List S75) (k : Nat), (∀ x ∈ xs, LabOk m x) → ∀ y ∈ readsFrom o lab d i k xs, -4000 ≤ y.f0 ∧ y.f0 ≤ 4000 ∧ -4000 ≤ y.f1 ∧ y.f1 ≤ 4000 := by
 intro xs
 induction xs with
 | nil => intro k _ y hy; simp [readsFrom] at hy
 | cons x xs ih =>
  intro k hx y hy
  have ih := ih (k + 1) (fun z hz => hx z (List.mem_cons_of_mem _ hz))
  simp only [readsFrom] at hy
  split at hy
  ·exact ih y hy
  ·rcases List.mem_cons.1 hy with rfl | hy
   ·obtain ⟨t0, t1, t2, t3⟩ := hx x (List.mem_cons_self ..)
    have h := t3 (rdL x i) (rd_mem 0 x.f1 i hi0 (by omega))
    unfold rangeOf
    simp only
    split <;> omega
   ·exact ih y hy
theorem foldl_bd (ys : List S46) (h : ∀ y ∈ ys, -4000 ≤ y.f0 ∧ y.f0 ≤ 4000 ∧ -4000 ≤ y.f1 ∧ y.f1 ≤ 4000) : ∀ (a : S46), Bd a → Bd (ys.foldl cutR a) := by
 induction ys with
 | nil => exact fun a ha => ha
 | cons y ys ih =>
  intro a ha
  refine ih (fun z hz => h z (List.mem_cons_of_mem _ hz)) _ ?_
  have := h y (List.mem_cons_self ..)
  unfold Bd cutR at *
  simp only
  omega
theorem sampR_bd (labs : List S75) (m : Nat) (o : Nat → Bool) (lab d i : Int) (hi0 : 0 ≤ i) (hi : i < m) (hl : ∀ x ∈ labs, LabOk m x) (hd : -2000 ≤ d) (hd' : d ≤ 2000) : Bd (sampR labs o lab d i) :=
 foldl_bd _ (readsFrom_bd o lab d i m hi0 hi hd hd' labs 0 hl) far2 (by refine ⟨?_, ?_, ?_, ?_⟩ <;> decide)
def outK (spread : Int) (ls : List S46) (samples : List Int) (outs : List S46) : Nat → List S46
 | 0 => outs
 | k + 1 => (outK spread ls samples outs k).set k (cutR ((outK spread ls samples outs k).getD k z46) (widR (ls.getD (rd samples k).toNat z46) spread))
theorem outK_length (spread : Int) (ls : List S46) (samples : List Int) (outs : List S46) : ∀ k, (outK spread ls samples outs k).length = outs.length
 | 0 => rfl
 | k + 1 => by simp only [outK, List.length_set]; exact outK_length spread ls samples outs k
theorem outK_cons (spread : Int) (ls : List S46) (s : Int) (ss : List Int) (r : S46) (rs : List S46) : ∀ k, outK spread ls (s :: ss) (r :: rs) (k + 1) = cutR r (widR (ls.getD s.toNat z46) spread) :: outK spread ls ss rs k
 | 0 => by simp [outK, rd]
 | k + 1 => by
  have ih := outK_cons spread ls s ss r rs k
  have e : rd (s :: ss) ((k + 1 : Nat) : Int) = rd ss (k : Int) := by simp [rd]
  conv => lhs; unfold outK
  rw [ih, e]
  simp [outK]
theorem outK_all (spread : Int) (ls : List S46) : ∀ (samples : List Int) (outs : List S46), outs.length = samples.length → outK spread ls samples outs samples.length = spansOut spread ls outs samples
 | [], outs, h => by
  obtain rfl := List.eq_nil_of_length_eq_zero h
  rfl
 | s :: ss, [], h => by simp at h
 | s :: ss, r :: rs, h => by
  rw [List.length_cons, outK_cons, spansOut, outK_all spread ls ss rs (by simpa using h)]
end Go.Proofs.Ytcpbhklaffgokaa.Q
namespace Go.Proofs.Ytcpbhklaffgokaa.Q
open Go.RowKit Go.Proofs.YtcpbhklaffgokaaW.PrintWords Go.Proofs.YtcpbhklaffgokaaW.PrintLast Go.Proofs.YtcpbhklaffgokaaW.PrintMore
set_option linter.unusedVariables false
set_option linter.unusedSimpArgs false
attribute [local go_sem] Oper.semAt_some
def spansT.T13 : Bool × List (List Nat × List Nat) := (true, [([], []), ([], []), ([], []), ([], []), ([2, 3], [2, 3]), ([4], [4]), ([], []), ([], []), ([7], [7]), ([8], [8]), ([9], [9]), ([10], [10]), ([6, 11], [6, 11]), ([5, 12, 12], [5, 12]), ([0, 1, 0, 1, 2, 3, 4, 5, 6, 7, 8, 9, 10, 11, 12, 13], [0, 1]), ([14, 13, 13, 0, 1, 2, 3, 4, 5, 6, 7, 8, 9, 10, 11, 12, 13], [13, 14])])
def spansT.B13 : List Nat := [0, 0, 0, 0, 12, 28, 0, 0, 128, 384, 896, 1920, 4032, 8188, 16383, 32767]
theorem spansT.tab13 : rtab .any (opsOf Try.f54 13) = spansT.T13 := by kernel_rfl
theorem spansT.bits13 : waitsOk spansT.T13.2 spansT.B13 = true := by kernel_rfl
def spansT.T25 : Bool × List (List Nat × List Nat) := (true, [([], []), ([], []), ([], []), ([], []), ([2, 3], [2, 3]), ([4], [4]), ([], []), ([], []), ([6, 7], [6, 7]), ([8], [8]), ([], []), ([10], [10]), ([11], [11]), ([12], [12]), ([13], [13]), ([9, 14], [9, 14]), ([5, 15, 15], [5, 15]), ([0, 1, 0, 1, 2, 3, 4, 5, 6, 7, 8, 9, 10, 11, 12, 13, 14, 15, 16], [0, 1]), ([17, 16, 16, 0, 1, 2, 3, 4, 5, 6, 7, 8, 9, 10, 11, 12, 13, 14, 15, 16], [16, 17])])
def spansT.B25 : List Nat := [0, 0, 0, 0, 12, 28, 0, 0, 192, 448, 0, 1024, 3072, 7168, 15360, 32704, 65532, 131071, 262143]
theorem spansT.tab25 : rtab .any (opsOf Try.f54 25) = spansT.T25 := by kernel_rfl
theorem spansT.bits25 : waitsOk spansT.T25.2 spansT.B25 = true := by kernel_rfl
def L1At (jb : Nat) (A0 : Option Addr) (c0 : Nat) (lots : List S46) (A1 : Option Addr) (c1 : Nat) (samples : List Int) (spread : Int) (A3 : Option Addr) (c3 : Nat) (labs : List S75) (mp : Value) (o : Nat → Bool) (lab d : Int) (w : World) (gl cl : Nat) (ad0 : Addr) (a : Act) (W : World) : Prop :=
 ∃ (x : Int) (vo : Value) (ls outs : List S46) (Ds : List Nat) (u10 u11 u12 u13 u32 u33 u34 u35 u36 u37 u38 u39 u40 u41 u42 u43 u44 u45 u46 u47 u48 u49 u50 u51 u52 u53 u54 u55 u56 u57 u58 u59 u60 u61 u62 u63 u64 u65 u66 u67 : Value), 0 ≤ x ∧ x ≤ samples.length ∧ L1 jb A0 c0 lots A1 c1 samples spread A3 c3 labs mp o lab d w gl cl vo x ls outs Ds W ∧ a = { tmps := #[.pointer (some ⟨jb, 0, none⟩), .agg #[.bool (o 0), .bool (o 1), .bool (o 2), .bool (o 3), .bool (o 4), .bool (o 5)], .agg #[.int .i64 lab, .int .i64 d], undef, .pointer (some ⟨w.heap.size, 0, none⟩), .pointer (some ⟨w.heap.size + 1, 0, none⟩), .slice none 0 0, .bool false, .slice (some ⟨gl, 0, none⟩) lots.length cl, vo, u10, u11, u12, u13, undef, undef, undef, undef, undef, .pointer (some ⟨jb, 0, none⟩), .pointer (some ⟨jb, 0, none⟩), .pointer (some ⟨jb, 0, none⟩), .pointer (some ⟨jb, 0, none⟩), .slice (some ad0) lots.length c0, .slice (some ⟨gl, 0, none⟩) lots.length cl, .pointer (some ⟨jb, 0, none⟩), .pointer (some ⟨jb, 0, none⟩), .pointer (some ⟨jb, 0, none⟩), .pointer (some ⟨jb, 1, none⟩), .slice A1 samples.length c1, .int .i64 samples.length, .int .i64 x, u32, u33, u34, u35, u36, u37, u38, u39, u40, u41, u42, u43, u44, u45, u46, u47, u48, u49, u50, u51, u52, u53, u54, u55, u56, u57, u58, u59, u60, u61, u62, u63, u64, u65, u66, u67, undef, undef, undef, undef, undef, undef, undef, undef, undef, undef, undef, undef, undef, undef, undef, undef, undef, undef, undef, undef, undef, undef, undef, undef, undef, undef, undef, undef, undef, undef, undef, undef, undef, undef, undef, undef, undef, undef, undef, undef, undef], defers := marks Ds }
set_option maxHeartbeats 8000000 in
set_option maxRecDepth 100000 in
theorem spans_any (jb : Nat) (A0 : Option Addr) (c0 : Nat) (lots : List S46) (A1 : Option Addr) (c1 : Nat) (samples : List Int) (spread : Int) (A3 : Option Addr) (c3 : Nat) (labs : List S75) (mp : Value) (o : Nat → Bool) (lab d : Int) (w : World)
  (hj : JAt w jb A0 c0 lots A1 c1 samples spread A3 c3 labs mp) (hok : RoundOk lots samples spread labs) (hd : -2000 ≤ d) (hd' : d ≤ 2000) :
  Calls Try.prog 54 #[.pointer (some ⟨jb, 0, none⟩), .agg #[.bool (o 0), .bool (o 1), .bool (o 2), .bool (o 3), .bool (o 4), .bool (o 5)], .agg #[.int .i64 lab, .int .i64 d]] w (SpansPost (spansF lots samples spread labs o lab d) w) := by
 obtain ⟨l0, l4, s8, b6, hlot, hsmp, sp0, sp1, hlabs⟩ := hok
 have HJ := Aside0.mk hj
 have HLO := Aside0.mk hlot
 have HSM := Aside0.mk hsmp
 have HLA := Aside0.mk hlabs
 clear hj hlot hsmp hlabs
 have hA0 : ∃ ad, A0 = some ad := by
  obtain ⟨ad, h, _⟩ := at_T46 HJ.out.lots 0 (by omega) (by omega)
  exact ⟨ad, h⟩
 obtain ⟨ad0, hA0⟩ := hA0
 subst hA0
 rw [← callsIn_wide (n := 5)]
 refine callsIn_of_wp_marks Try.func54 rfl trivial ?_ rfl
 rw [wpIn_wide]
 simp only [Try.ntmps54, List.size_toArray, List.length_cons, List.length_nil, Nat.reduceAdd, Nat.reduceSub, Array.replicate_succ, Array.replicate_zero, List.push_toArray, List.append_toArray, List.nil_append, List.cons_append]
 have BO := Aside0.mk (blk_alloc (blk_new w (.cells #[.bool (o 0), .bool (o 1), .bool (o 2), .bool (o 3), .bool (o 4), .bool (o 5)] 85)) (.cells #[.int .i64 lab, .int .i64 d] 94))
 have BS := blk_new (w.alloc (.cells #[.bool (o 0), .bool (o 1), .bool (o 2), .bool (o 3), .bool (o 4), .bool (o 5)] 85)) (.cells #[.int .i64 lab, .int .i64 d] 94)
 simp only [World.size_alloc] at BS
 replace BS := Aside0.mk BS
 have HB0 := below_alloc (below_alloc (Below.refl _ w) (.cells #[.bool (o 0), .bool (o 1), .bool (o 2), .bool (o 3), .bool (o 4), .bool (o 5)] 85)) (.cells #[.int .i64 lab, .int .i64 d] 94)
 have hc0 := (HJ.out.below HB0).cells.1
 have HB := Aside0.mk HB0
 clear HB0
 have hlen : lots.length < 1000000 := by omega
 go_wp2
 go_step3
 go_wp2_with (go_at_call 73; refine Aside0.out ?_)
 refine ⟨?_⟩
 refine (clone46 ad0 c0 lots _ (HJ.out.below HB.out).lots hlen).mono ?_
 rintro e w1 ⟨vl, rfl, ho, hb⟩
 replace BO := Aside0.mk (blk_below BO.out hb)
 replace BS := Aside0.mk (blk_below BS.out hb)
 have HLs := Aside0.mk (Kd.R_lower ho (show w.heap.size ≤ _ by simp; omega))
 replace HB := Aside0.mk (below_step HB.out hb)
 clear hb ho hc0
 obtain ⟨gl, cl, rfl, hgl, hgl2, _⟩ := Kd.R_form HLs.out l0
 clear hgl hgl2
 obtain ⟨hc0, hc1, hc2, hc3, hc4⟩ := (HJ.out.below HB.out).cells
 go_wp2
 refine wp_loop (L1At jb (some ad0) c0 lots A1 c1 samples spread A3 c3 labs mp o lab d w gl cl ad0) (fun a _ => samples.length - (intOf (a.tmps.getD 31 undef)).toNat) ?_ ?_
 ·refine ⟨0, .slice none 0 0, lots, [], [], undef, undef, undef, undef, undef, undef, undef, undef, undef, undef, undef, undef, undef, undef, undef, undef, undef, undef, undef, undef, undef, undef, undef, undef, undef, undef, undef, undef, undef, undef, undef, undef, undef, undef, undef, undef, undef, undef, undef, undef, by omega, by omega, ?_, rfl⟩
  refine ⟨by simp, rfl, ?_, by simp, by simp, HLs.out, Kd.R_nil _ _ _ _ _, by simp [Value.ownBlock], BO.out, BS.out, HB.out, by simp [DefAt], by simp, by simp⟩
  intro l hl
  have := HLO.out l hl
  unfold Bd
  omega
 ·rintro a W ⟨x, vo, ls, outs, Ds, u10, u11, u12, u13, u32, u33, u34, u35, u36, u37, u38, u39, u40, u41, u42, u43, u44, u45, u46, u47, u48, u49, u50, u51, u52, u53, u54, u55, u56, u57, u58, u59, u60, u61, u62, u63, u64, u65, u66, u67, hx0, hx1, HL1, rfl⟩
  have HL := Aside0.mk HL1
  clear HL1 BO BS HLs HB hc0 hc1 hc2 hc3 hc4
  by_cases hlt : x < samples.length
  ·obtain ⟨ad1, hA1, hs0⟩ := Kd.at_int (HJ.out.below HL.out.hb).samples x hx0 hlt
   obtain rfl := hA1
   have hsm := HSM.out (rd samples x) (rd_mem 0 samples x hx0 hlt)
   obtain ⟨hs1, hs2⟩ := hsm
   have hbo : ∀ ob, (W.alloc ob).cell? ⟨w.heap.size, 0, none⟩ = some (.bool (o 0)) ∧ (W.alloc ob).cell? ⟨w.heap.size, 1, none⟩ = some (.bool (o 1)) ∧ (W.alloc ob).cell? ⟨w.heap.size, 2, none⟩ = some (.bool (o 2)) ∧ (W.alloc ob).cell? ⟨w.heap.size, 3, none⟩ = some (.bool (o 3)) ∧ (W.alloc ob).cell? ⟨w.heap.size, 4, none⟩ = some (.bool (o 4)) ∧ (W.alloc ob).cell? ⟨w.heap.size, 5, none⟩ = some (.bool (o 5)) ∧ (W.alloc ob).cell? ⟨w.heap.size + 1, 0, none⟩ = some (.int .i64 lab) ∧ (W.alloc ob).cell? ⟨w.heap.size + 1, 1, none⟩ = some (.int .i64 d) := fun ob => by
    have h1 := blk_alloc HL.out.bo ob
    have h2 := blk_alloc HL.out.bs ob
    exact ⟨(blk_cell h1 0).trans rfl, (blk_cell h1 1).trans rfl, (blk_cell h1 2).trans rfl, (blk_cell h1 3).trans rfl, (blk_cell h1 4).trans rfl, (blk_cell h1 5).trans rfl, (blk_cell h2 0).trans rfl, (blk_cell h2 1).trans rfl⟩
   go_wp2_with (go_at_call 74; refine Aside0.out ?_)
   refine ⟨?_⟩
   refine (readings_any jb x o lab d _).mono ?_
   rintro e W2 ⟨rfl, rfl⟩
   clear hbo hs0
   go_wp2
   obtain ⟨k0, k1, k2, k3, k4, k5, k6⟩ := alloc5 W (.cells #[.int .i64 (-1073741824), .int .i64 1073741824] 46) (.cells #[.pointer (some ⟨jb, 0, none⟩)] 83) (.cells #[.int .i64 x] 3) (.cells #[.bool (o 0), .bool (o 1), .bool (o 2), .bool (o 3), .bool (o 4), .bool (o 5)] 85) (.cells #[.int .i64 lab, .int .i64 d] 94)
   generalize (((((W.alloc (.cells #[.int .i64 (-1073741824), .int .i64 1073741824] 46)).alloc (.cells #[.pointer (some ⟨jb, 0, none⟩)] 83)).alloc (.cells #[.int .i64 x] 3)).alloc (.cells #[.bool (o 0), .bool (o 1), .bool (o 2), .bool (o 3), .bool (o 4), .bool (o 5)] 85)).alloc (.cells #[.int .i64 lab, .int .i64 d] 94)) = W5 at k0 k1 k2 k3 k4 k5 k6 ⊢
   have hwW := HL.out.hb.size
   have HB5 := Aside0.mk (below_step HL.out.hb k6)
   have K6 := Aside0.mk k6
   have K5 := Aside0.mk k5
   have hC : ∀ W', Kb W5.heap.size W.heap.size W5 W' → Kd.C k75 W' A3 labs.length labs ∧ W'.heap[jb]? = some (.cells #[.slice (some ad0) lots.length c0, .slice (some ad1) samples.length c1, .int .i64 spread, .slice A3 labs.length c3, mp] 107 (0, 0)) := fun W' hW' => by
    have h := HJ.out.below (HB5.out.trans (hW'.below (m := w.heap.size) (by omega) (by omega)))
    exact ⟨h.labs, h.blk⟩
   rw [← wpIn_wide (n := 5)]
   refine wpIn_rangeFunc_ownH rfl (by omega) (gf := 89) (lb := #[.pointer (some ⟨W.heap.size + 1, 0, none⟩), .pointer (some ⟨W.heap.size + 1 + 1, 0, none⟩), .pointer (some ⟨W.heap.size + 1 + 1 + 1, 0, none⟩), .pointer (some ⟨W.heap.size + 1 + 1 + 1 + 1, 0, none⟩)]) rfl trivial (enters_ Try.func89 (by kernel_rfl) rfl)
    (reads_stops 4 W.heap.size jb _ _ _ _ A3 c3 labs x samples.length o lab d _ _ _ _ b6 hx0 hlt s8 HLA.out hd hd' W5 k1 k2 k3 k4 (by omega) (by omega) (by omega) (by omega) hC)
    Kb.trans (kb_putObj (Nat.le_refl _)) (Below.refl _ _) (fun _ => rfl)
    (RI W.heap.size W5) (fun _ _ _ => False) (RI_own _ _ (by omega)) (fun _ _ _ _ _ hs _ _ => hs) ⟨k0, Kb.refl _ _ _⟩
    (RAx W5 (fun y B => #[.pointer (some ⟨jb, 0, none⟩), .agg #[.bool (o 0), .bool (o 1), .bool (o 2), .bool (o 3), .bool (o 4), .bool (o 5)], .agg #[.int .i64 lab, .int .i64 d], undef, .pointer (some ⟨w.heap.size, 0, none⟩), .pointer (some ⟨w.heap.size + 1, 0, none⟩), .slice none 0 0, .bool false, .slice (some ⟨gl, 0, none⟩) lots.length cl, vo, .int .i64 x, .int .i64 (rd samples x), .pointer (some ⟨W.heap.size, 0, none⟩), .pointer (some ⟨B, 0, none⟩), undef, undef, undef, undef, undef, .pointer (some ⟨jb, 0, none⟩), .pointer (some ⟨jb, 0, none⟩), .pointer (some ⟨jb, 0, none⟩), .pointer (some ⟨jb, 0, none⟩), .slice (some ad0) lots.length c0, .slice (some ⟨gl, 0, none⟩) lots.length cl, .pointer (some ⟨jb, 0, none⟩), .pointer (some ⟨jb, 0, none⟩), .pointer (some ⟨jb, 0, none⟩), .pointer (some ⟨jb, 1, none⟩), .slice (some ad1) samples.length c1, .int .i64 samples.length, .int .i64 x, .bool true, .int .i64 x, .pointer (some (ad1.add x.toNat)), .int .i64 (rd samples x), .agg #[.int .i64 (-1073741824), .int .i64 1073741824], .pointer (some ⟨jb, 0, none⟩), .int .i64 x, .agg #[.bool (o 0), .bool (o 1), .bool (o 2), .bool (o 3), .bool (o 4), .bool (o 5)], .agg #[.int .i64 lab, .int .i64 d], .func (.func 89) #[] #[.pointer (some ⟨W.heap.size + 1, 0, none⟩), .pointer (some ⟨W.heap.size + 1 + 1, 0, none⟩), .pointer (some ⟨W.heap.size + 1 + 1 + 1, 0, none⟩), .pointer (some ⟨W.heap.size + 1 + 1 + 1 + 1, 0, none⟩)], .agg #[.int .i64 y.f0, .int .i64 y.f1], u43, u44, u45, u46, u47, u48, u49, u50, u51, u52, u53, u54, u55, u56, u57, u58, u59, u60, u61, u62, u63, u64, u65, u66, u67, undef, undef, undef, undef, undef, undef, undef, undef, undef, undef, undef, undef, undef, undef, undef, undef, undef, undef, undef, undef, undef, undef, undef, undef, undef, undef, undef, undef, undef, undef, undef, undef, undef, undef, undef, undef, undef, undef, undef, undef, undef])) (RAx_own _ _) ?assign ?body ?done ?stop
   case assign =>
    intro l pre y W' K hI hK
    have HI := Aside0.mk hI
    have HK := Aside0.mk hK
    clear hI hK k0 k1 k2 k3 k4 k5 k6 hC
    gi_wp2
    refine HK.out _ _ ((KeepsOthers.alloc _ _).from _) (kb_of_below ((below_alloc (Below.refl _ _) _).mono HI.out.2.size)) ⟨blk_alloc HI.out.1 _, HI.out.2.step (below_alloc (Below.refl _ _) _)⟩ ⟨W'.heap.size, HI.out.2.size, blk_new _ _, rfl⟩
   case body =>
    rintro l pre y a' W' _ _ hI ⟨B, hB1, hB2, rfl⟩ _
    have HI := Aside0.mk hI
    have hB3 := Aside0.mk hB2
    clear hI hB2 k0 k1 k2 k3 k4 k5 k6 hC
    have e0 : W'.cell? ⟨W.heap.size, 0, none⟩ = some (.int .i64 (pre.foldl cutR far2).f0) := (blk_cell HI.out.1 0).trans rfl
    have e1 : W'.cell? ⟨W.heap.size, 1, none⟩ = some (.int .i64 (pre.foldl cutR far2).f1) := (blk_cell HI.out.1 1).trans rfl
    have e2 : W'.cell? ⟨B, 0, none⟩ = some (.int .i64 y.f0) := (blk_cell hB3.out 0).trans rfl
    have e3 : W'.cell? ⟨B, 1, none⟩ = some (.int .i64 y.f1) := (blk_cell hB3.out 1).trans rfl
    gi_wp2
    refine ⟨trivial, ?_⟩
    refine (CallsIn.inRound l (callsIn_wide.2 (cut_any _ _ _ _ _))).mono ?_
    rintro e W3 ⟨rfl, hb⟩
    clear e0 e1 e2 e3
    have HI3 := Aside0.mk (blk_below HI.out.1 hb)
    have HBB := Aside0.mk hb
    clear hb
    have e0 : W3.cell? ⟨W.heap.size, 0, none⟩ = some (.int .i64 (pre.foldl cutR far2).f0) := (blk_cell HI3.out 0).trans rfl
    have e1 : W3.cell? ⟨W.heap.size, 1, none⟩ = some (.int .i64 (pre.foldl cutR far2).f1) := (blk_cell HI3.out 1).trans rfl
    have f0 := blk_frozen HI3.out 0
    have f1 := blk_frozen HI3.out 1
    gi_wp2
    refine ⟨?_, ?_, ?_, ?_⟩
    ·exact (((ko_below HBB.out).trans (KeepsOthers.setCell _ _ _)).trans (KeepsOthers.setCell _ _ _)).from _
    ·exact ((kb_of_below (HBB.out.mono HI.out.2.size)).set 0 _).set 1 _
    ·refine blk_put (cs := #[.int .i64 (max (pre.foldl cutR far2).f0 y.f0), .int .i64 (pre.foldl cutR far2).f1]) (blk_put HI3.out 0 _ rfl) 1 _ ?_
     rw [List.foldl_append]; rfl
    ·exact ((HI.out.2.step HBB.out).set 0 _).set 1 _
   case stop =>
    intro D c pre W' _ _ h _
    exact h.elim
   case done =>
    intro D xs W' hD hxs hI hdD
    subst hxs
    have KB := Aside0.mk hI.2
    have RB : W'.heap[W.heap.size]? = some (.cells #[.int .i64 (sampR labs o lab d x).f0, .int .i64 (sampR labs o lab d x).f1] 46 (0, 0)) := hI.1
    have RB := Aside0.mk RB
    have hWW : Below W.heap.size W W' := K6.out.trans (hI.2.below (by omega) (Nat.le_refl _))
    have hHB : Below w.heap.size w W' := below_step HL.out.hb hWW
    have HDn : Aside0 (D ∉ Ds ∧ w.heap.size ≤ D) := ⟨fun hm => by have := blk_lt (HL.out.da D hm); omega, by omega⟩
    have HDA : DefAt W' (D :: Ds) := fun E hE => by
     rcases List.mem_cons.1 hE with rfl | hE
     ·exact hdD
     ·exact blk_below (HL.out.da E hE) hWW
    have HDA := Aside0.mk HDA
    have HB := Aside0.mk hHB
    have RL := Aside0.mk (Kd.R_below HL.out.rl hWW)
    have RO := Aside0.mk (Kd.R_below HL.out.ro hWW)
    have BO := Aside0.mk (blk_below HL.out.bo hWW)
    have BS := Aside0.mk (blk_below HL.out.bs hWW)
    have hlv : vo.ownBlock ≠ some W.heap.size := fun he => by have := Kd.R_lt HL.out.ro _ he; omega
    have NR := Aside0.mk hlv
    clear hI hdD hD hC hWW hHB hlv k0 k1 k2 k3 k4 k5 k6
    have e0 : W'.cell? ⟨W.heap.size, 0, none⟩ = some (.int .i64 (sampR labs o lab d x).f0) := (blk_cell RB.out 0).trans rfl
    have e1 : W'.cell? ⟨W.heap.size, 1, none⟩ = some (.int .i64 (sampR labs o lab d x).f1) := (blk_cell RB.out 1).trans rfl
    have hdrop : samples.drop x.toNat = rd samples x :: samples.drop (x + 1).toNat := by
     have hk : x.toNat < samples.length := by omega
     rw [List.drop_eq_getElem_cons hk, show (x + 1).toNat = x.toNat + 1 by omega]
     congr 1
     simp [rd, List.getD_eq_getElem?_getD, List.getElem?_eq_getElem hk]
    have HSp := HL.out.spec
    rw [hdrop] at HSp
    simp only [spansFrom] at HSp
    rw [show ((x.toNat : Nat) : Int) = x by omega] at HSp
    clear hdrop
    cases hem : emptyR (sampR labs o lab d x)
    ·rw [hem] at HSp
     rw [if_neg (by simp)] at HSp
     have HSp := Aside0.mk HSp
     have hem' : decide ((sampR labs o lab d x).f1 < (sampR labs o lab d x).f0) = false := hem
     have HE := Aside0.mk (empty_any (sampR labs o lab d x).f0 (sampR labs o lab d x).f1 W')
     simp only [hem'] at HE
     clear hem hem'
     go_wp2_with (go_at_call 76; refine Aside0.out ?_)
     refine ⟨?_⟩
     refine HE.out.mono ?_
     rintro e W6 ⟨rfl, hb⟩
     clear e0 e1
     have HDA := Aside0.mk (HDA.out.below hb)
     have HB := Aside0.mk (below_step HB.out hb)
     have RL := Aside0.mk (Kd.R_below RL.out hb)
     have RO := Aside0.mk (Kd.R_below RO.out hb)
     have BO := Aside0.mk (blk_below BO.out hb)
     have BS := Aside0.mk (blk_below BS.out hb)
     have RB := Aside0.mk (blk_below RB.out hb)
     clear hb
     have e0 : W6.cell? ⟨W.heap.size, 0, none⟩ = some (.int .i64 (sampR labs o lab d x).f0) := (blk_cell RB.out 0).trans rfl
     have e1 : W6.cell? ⟨W.heap.size, 1, none⟩ = some (.int .i64 (sampR labs o lab d x).f1) := (blk_cell RB.out 1).trans rfl
     go_wp2_with (((with_reducible refine gate_builtin (b := .append) (xs := #[.tmp 48, .tmp 50]) rfl ?_); at_builtin; refine Aside0.out ?_))
     refine ⟨?_⟩
     refine Kd.R_append k46 (w0 := w) w.heap.size rfl (.tmp 48) (.tmp 50) 31 46 (.agg #[(.int .i64 0), (.int .i64 0)]) 16 rfl Try.underlying31 info46 rfl (by decide) (by omega) vo outs (sampR labs o lab d x) [.int .i64 (sampR labs o lab d x).f0, .int .i64 (sampR labs o lab d x).f1] (fun _ => True) (fun _ => False) rfl rfl (k46_mkM _ _ _ _) (fun _ h => h.elim) (fun _ _ => trivial) RO.out HB.out HB.out.size (by have := HL.out.ol; omega) ?_
     intro v2 w7 ho hb hg hat
     clear e0 e1
     have HDA := Aside0.mk (HDA.out.grown hg (Kd.R_typed RO.out))
     have RL2 := Aside0.mk (Kd.R_grown2 RL.out k46_E hg (fun k hk he => HL.out.ne (by rw [hk, he]; rfl)))
     have BO := Aside0.mk (blk_grown BO.out hg (Kd.R_ne RO.out BO.out (by decide)))
     have BS := Aside0.mk (blk_grown BS.out hg (Kd.R_ne RO.out BS.out (by decide)))
     have RB2 := Aside0.mk (blk_grown RB.out hg (fun he => NR.out he.symm))
     have NE2 : Aside0 (some gl ≠ v2.ownBlock) := ⟨by
      rcases hat with h | ⟨b, h, h2⟩
      ·rw [h]; exact HL.out.ne
      ·rw [h]; intro he; cases he; exact absurd (Kd.R_lt RL.out gl rfl) (by omega)⟩
     have NRL : Aside0 (gl ≠ W.heap.size) := ⟨fun he => by have := Kd.R_lt HL.out.rl gl rfl; omega⟩
     have NR2 : Aside0 (some W.heap.size ≠ v2.ownBlock) := ⟨by
      rcases hat with h | ⟨b, h, h2⟩
      ·rw [h]; exact fun he => NR.out he.symm
      ·rw [h]; intro he; cases he; exact absurd (blk_lt RB.out) (by omega)⟩
     have HB := Aside0.mk hb
     have RO2 := Aside0.mk ho
     clear hb ho hg hat RL RO RB
     have RL := RL2
     have RO := RO2
     have RB := RB2
     clear RL2 RO2 RB2
     have RBd := Aside0.mk (sampR_bd labs samples.length o lab d x hx0 hlt HLA.out hd hd')
     go_wp2
     refine wp_region_noPanic ?_
     refine start_ (n := 16) (S := fun w' => w'.cell? ⟨gl, (rd samples x).toNat * 2, none⟩ = some (.int .i64 (rd_T46 ls (rd samples x)).f0) ∧ w'.cell? ⟨gl, (rd samples x).toNat * 2 + 1, none⟩ = some (.int .i64 (rd_T46 ls (rd samples x)).f1) ∧ w'.cell? ⟨W.heap.size, 0, none⟩ = some (.int .i64 (sampR labs o lab d x).f0) ∧ w'.cell? ⟨W.heap.size, 1, none⟩ = some (.int .i64 (sampR labs o lab d x).f1) ∧ w'.cell? ⟨jb, 2, none⟩ = some (.int .i64 spread)) (ds := [15]) #[false, false, false, false, false, false, false, false, false, false, false, false, false, false, false, false] (by kernel_rfl) rfl rfl ⟨(get46 (Kd.R_drew RL.out) (rd samples x) hs1 hs2).1, (get46 (Kd.R_drew RL.out) (rd samples x) hs1 hs2).2.1, (blk_cell (blk_drew RB.out) 0).trans rfl, (blk_cell (blk_drew RB.out) 1).trans rfl, (HJ.out.below (below_drew1 HB.out)).cells.2.2.1⟩ (fun hHeld => ?_)
     refine with_tabW spansT.tab13 spansT.bits13 (fun HT_ HW_ => ?_)
     replace HDA := Aside0.mk (show DefAt w7.drew (D :: Ds) from HDA.out)
     replace HB := Aside0.mk (below_drew1 HB.out)
     replace RL := Aside0.mk (Kd.R_drew RL.out)
     replace RO := Aside0.mk (Kd.R_drew RO.out)
     replace BO := Aside0.mk (blk_drew BO.out)
     replace BS := Aside0.mk (blk_drew BS.out)
     replace RB := Aside0.mk (blk_drew RB.out)
     generalize w7.drew = w7' at HDA HB RL RO BO BS RB hHeld ⊢
     refine pure_ (i := 0) (N := some 52) (v := ?_) (a' := ?_) #[true, false, false, false, false, false, false, false, false, false, false, false, false, false, false, false] rfl rfl (any_of HT_.out (by kernel_rfl)) (fun _ _ _ h => h) (Or.inl ⟨by rfl, ?_⟩) ?_ ?_
     rotate_left
     ·intro w'
      go_simp
      with_reducible rfl
     rotate_left
     ·simp only [Act.put, List.setIfInBounds_toArray, List.set_cons_zero, List.set_cons_succ, i64_w, i32_w]
      rfl
     refine pure_ (i := 1) (N := some 53) (v := ?_) (a' := ?_) #[true, true, false, false, false, false, false, false, false, false, false, false, false, false, false, false] rfl rfl (any_of HT_.out (by kernel_rfl)) (fun _ _ _ h => h) (Or.inl ⟨by rfl, ?_⟩) ?_ ?_
     rotate_left
     ·intro w'
      go_simp
      with_reducible rfl
     rotate_left
     ·simp only [Act.put, List.setIfInBounds_toArray, List.set_cons_zero, List.set_cons_succ, i64_w, i32_w]
      rfl
     refine pure_ (i := 2) (N := some 54) (v := ?_) (a' := ?_) #[true, true, true, false, false, false, false, false, false, false, false, false, false, false, false, false] rfl rfl (any_of HT_.out (by kernel_rfl)) (fun _ _ _ h => h) (Or.inl ⟨by rfl, ?_⟩) ?_ ?_
     rotate_left
     ·intro w'
      go_simp
      with_reducible rfl
     rotate_left
     ·simp only [Act.put, List.setIfInBounds_toArray, List.set_cons_zero, List.set_cons_succ, i64_w, i32_w]
      rfl
     refine pure_ (i := 3) (N := some 55) (v := ?_) (a' := ?_) #[true, true, true, true, false, false, false, false, false, false, false, false, false, false, false, false] rfl rfl (any_of HT_.out (by kernel_rfl)) (fun _ _ _ h => h) (Or.inl ⟨by rfl, ?_⟩) ?_ ?_
     rotate_left
     ·intro w'
      go_simp
      with_reducible rfl
     rotate_left
     ·simp only [Act.put, List.setIfInBounds_toArray, List.set_cons_zero, List.set_cons_succ, i64_w, i32_w]
      rfl
     refine pure_ (i := 4) (N := some 56) (v := ?_) (a' := ?_) #[true, true, true, true, true, false, false, false, false, false, false, false, false, false, false, false] rfl rfl (any_of HT_.out (by kernel_rfl)) (fun _ _ _ h => h) (Or.inl ⟨by rfl, ?_⟩) ?_ ?_
     rotate_left
     ·intro w'
      go_simp
      with_reducible rfl
     rotate_left
     ·simp only [Act.put, List.setIfInBounds_toArray, List.set_cons_zero, List.set_cons_succ, i64_w, i32_w]
      rfl
     refine pure_ (i := 7) (N := some 59) (v := ?_) (a' := ?_) #[true, true, true, true, true, false, false, true, false, false, false, false, false, false, false, false] rfl rfl (any_of HT_.out (by kernel_rfl)) (fun _ _ _ h => h) (Or.inl ⟨by rfl, ?_⟩) ?_ ?_
     rotate_left
     ·intro w'
      go_simp
      with_reducible rfl
     rotate_left
     ·simp only [Act.put, List.setIfInBounds_toArray, List.set_cons_zero, List.set_cons_succ, i64_w, i32_w]
      rfl
     refine pure_ (i := 8) (N := some 60) (v := ?_) (a' := ?_) #[true, true, true, true, true, false, false, true, true, false, false, false, false, false, false, false] rfl rfl (any_of HT_.out (by kernel_rfl)) (fun _ _ _ h => h) (Or.inl ⟨by rfl, ?_⟩) ?_ ?_
     rotate_left
     ·intro w'
      go_simp
      with_reducible rfl
     rotate_left
     ·simp only [Act.put, List.setIfInBounds_toArray, List.set_cons_zero, List.set_cons_succ, i64_w, i32_w]
      rfl
     refine pure_ (i := 9) (N := some 61) (v := ?_) (a' := ?_) #[true, true, true, true, true, false, false, true, true, true, false, false, false, false, false, false] rfl rfl (any_of HT_.out (by kernel_rfl)) (fun _ _ _ h => h) (Or.inl ⟨by rfl, ?_⟩) ?_ ?_
     rotate_left
     ·intro w'
      go_simp
      with_reducible rfl
     rotate_left
     ·simp only [Act.put, List.setIfInBounds_toArray, List.set_cons_zero, List.set_cons_succ, i64_w, i32_w]
      rfl
     refine pure_ (i := 10) (N := some 62) (v := ?_) (a' := ?_) #[true, true, true, true, true, false, false, true, true, true, true, false, false, false, false, false] rfl rfl (any_of HT_.out (by kernel_rfl)) (fun _ _ _ h => h) (Or.inl ⟨by rfl, ?_⟩) ?_ ?_
     rotate_left
     ·intro w'
      go_simp
      with_reducible rfl
     rotate_left
     ·simp only [Act.put, List.setIfInBounds_toArray, List.set_cons_zero, List.set_cons_succ, i64_w, i32_w]
      rfl
     refine take_ (i := 5) (N := some 57) (v := ?_) (a' := ?_) #[true, true, true, true, true, true, false, true, true, true, true, false, false, false, false, false] rfl rfl (take_ofW HT_.out HW_.out (by kernel_rfl)) (fun _ _ _ h => h) (Or.inl ⟨by rfl, ?_⟩) hHeld ?_ ?_
     rotate_left
     ·rintro w' ⟨s0, s1, s2, s3, s4⟩
      go_simp
      with_reducible rfl
     rotate_left
     ·simp only [Act.put, List.setIfInBounds_toArray, List.set_cons_zero, List.set_cons_succ, i64_w, i32_w]
      rfl
     refine take_ (i := 6) (N := some 58) (v := ?_) (a' := ?_) #[true, true, true, true, true, true, true, true, true, true, true, false, false, false, false, false] rfl rfl (take_ofW HT_.out HW_.out (by kernel_rfl)) (fun _ _ _ h => h) (Or.inl ⟨by rfl, ?_⟩) hHeld ?_ ?_
     rotate_left
     ·rintro w' ⟨s0, s1, s2, s3, s4⟩
      go_simp
      with_reducible rfl
     rotate_left
     ·simp only [Act.put, List.setIfInBounds_toArray, List.set_cons_zero, List.set_cons_succ, i64_w, i32_w]
      rfl
     refine take_ (i := 11) (N := some 63) (v := ?_) (a' := ?_) #[true, true, true, true, true, true, true, true, true, true, true, true, false, false, false, false] rfl rfl (take_ofW HT_.out HW_.out (by kernel_rfl)) (fun _ _ _ h => h) (Or.inl ⟨by rfl, ?_⟩) hHeld ?_ ?_
     rotate_left
     ·rintro w' ⟨s0, s1, s2, s3, s4⟩
      go_simp
      with_reducible rfl
     rotate_left
     ·simp only [Act.put, List.setIfInBounds_toArray, List.set_cons_zero, List.set_cons_succ, i64_w, i32_w]
      rfl
     refine one_ (i := 12) (N := some 64) #[true, true, true, true, true, true, true, true, true, true, true, true, true, false, false, false] rfl rfl (one_of HT_.out (by kernel_rfl)) (by decide) (fun K hK => ?_)
     refine goes_ Try.func77 (by kernel_rfl) rfl #[.agg #[.int .i64 (sampR labs o lab d x).f0, .int .i64 (sampR labs o lab d x).f1], .int .i64 spread] (by rfl) rfl rfl (by simp only [List.map_toArray, List.map_cons, List.map_nil]; rfl) ?_
     with_reducible refine (wider_any _ _ _ _ (by have := RBd.out; unfold Bd at this; omega) (by have := RBd.out; unfold Bd at this; omega) (by have := RBd.out; unfold Bd at this; omega) (by have := RBd.out; unfold Bd at this; omega) sp0 sp1).mono ?_
     rintro e w8 ⟨rfl, hb⟩
     refine ⟨_, rfl, ?_⟩
     have HDA := Aside0.mk (HDA.out.below hb)
     have HB := Aside0.mk (below_step HB.out hb)
     have RL := Aside0.mk (Kd.R_below RL.out hb)
     have RO := Aside0.mk (Kd.R_below RO.out hb)
     have BO := Aside0.mk (blk_below BO.out hb)
     have BS := Aside0.mk (blk_below BS.out hb)
     have RB := Aside0.mk (blk_below RB.out hb)
     clear hb
     refine hK.out _ _ ⟨(get46 RL.out (rd samples x) hs1 hs2).1, (get46 RL.out (rd samples x) hs1 hs2).2.1, (blk_cell RB.out 0).trans rfl, (blk_cell RB.out 1).trans rfl, (HJ.out.below HB.out).cells.2.2.1⟩ (fun hHeld => ?_)
     clear hK K
     refine norm_ (a' := ?_) ?_ ?_
     rotate_left
     ·show Act.put _ (some 64) _ = _
      simp only [Act.put, List.setIfInBounds_toArray, List.set_cons_zero, List.set_cons_succ, i64_w, i32_w]
      rfl
     refine one_ (i := 13) (N := some 65) #[true, true, true, true, true, true, true, true, true, true, true, true, true, true, false, false] rfl rfl (one_of HT_.out (by kernel_rfl)) (by decide) (fun K hK => ?_)
     refine goes_ Try.func75 (by kernel_rfl) rfl #[.agg #[.int .i64 (rd_T46 ls (rd samples x)).f0, .int .i64 (rd_T46 ls (rd samples x)).f1], .agg #[.int .i64 ((sampR labs o lab d x).f0 - spread), .int .i64 ((sampR labs o lab d x).f1 + spread)]] (by rfl) rfl rfl (by simp only [List.map_toArray, List.map_cons, List.map_nil]; rfl) ?_
     with_reducible refine (cut_any _ _ _ _ _).mono ?_
     rintro e w9 ⟨rfl, hb⟩
     refine ⟨_, rfl, ?_⟩
     have HDA := Aside0.mk (HDA.out.below hb)
     have HB := Aside0.mk (below_step HB.out hb)
     have RL := Aside0.mk (Kd.R_below RL.out hb)
     have RO := Aside0.mk (Kd.R_below RO.out hb)
     have BO := Aside0.mk (blk_below BO.out hb)
     have BS := Aside0.mk (blk_below BS.out hb)
     have RB := Aside0.mk (blk_below RB.out hb)
     clear hb
     refine hK.out _ _ ⟨(get46 RL.out (rd samples x) hs1 hs2).1, (get46 RL.out (rd samples x) hs1 hs2).2.1, (blk_cell RB.out 0).trans rfl, (blk_cell RB.out 1).trans rfl, (HJ.out.below HB.out).cells.2.2.1⟩ (fun hHeld => ?_)
     clear hK K
     refine norm_ (a' := ?_) ?_ ?_
     rotate_left
     ·show Act.put _ (some 65) _ = _
      simp only [Act.put, List.setIfInBounds_toArray, List.set_cons_zero, List.set_cons_succ, i64_w, i32_w]
      rfl
     refine pure_ (i := 14) (N := some 66) (v := ?_) (a' := ?_) #[true, true, true, true, true, true, true, true, true, true, true, true, true, true, true, false] rfl rfl (any_of HT_.out (by kernel_rfl)) (fun _ _ _ h => h) (Or.inl ⟨by rfl, ?_⟩) ?_ ?_
     rotate_left
     ·intro w'
      go_simp
      with_reducible rfl
     rotate_left
     ·simp only [Act.put, List.setIfInBounds_toArray, List.set_cons_zero, List.set_cons_succ, i64_w, i32_w]
      rfl
     refine last_ (i := 15) (N := none) #[true, true, true, true, true, true, true, true, true, true, true, true, true, true, true, true] rfl rfl (one_of HT_.out (by kernel_rfl)) (by decide) (fun K hK => ?_)
     obtain ⟨q0, q1, q2, q3⟩ := get46 RL.out (rd samples x) hs1 hs2
     refine skip_ (w1 := ?_) (by rfl) rfl ?_ ?_
     rotate_left
     ·go_simp
      rfl
     refine hK.out _ _ ?_
     clear hK K
     refine done_ (done_of HT_.out (by kernel_rfl)) ?_
     refine NoPanic.normal ?_
     clear hHeld q0 q1 q2 q3
     have RL2 := Aside0.mk (set46 RL.out (rd samples x) hs1 hs2 (max (rd_T46 ls (rd samples x)).f0 ((sampR labs o lab d x).f0 - spread)) (min (rd_T46 ls (rd samples x)).f1 ((sampR labs o lab d x).f1 + spread)))
     have HG1 : w.heap.size ≤ gl := Kd.R_base RL.out gl rfl
     obtain ⟨gcs, HG2⟩ := Kd.R_typed RL.out gl rfl
     have HG3 : gl ≠ w.heap.size := fun he => Kd.R_ne RL.out BO.out (by decide) (by rw [he]; rfl)
     have HG4 : gl ≠ w.heap.size + 1 := fun he => Kd.R_ne RL.out BS.out (by decide) (by rw [he]; rfl)
     have HG := Aside0.mk (And.intro HG1 (And.intro HG2 (And.intro HG3 HG4)))
     clear HG1 HG2 HG3 HG4
     go_wp2
     obtain ⟨HG1, HG2, HG3, HG4⟩ := HG.out
     refine ⟨⟨x + 1, v2, _, outs ++ [sampR labs o lab d x], D :: Ds, _, _, _, _, _, _, _, _, _, _, _, _, _, _, _, _, _, _, _, _, _, _, _, _, _, _, _, _, _, _, _, _, _, _, _, _, _, _, _, _, by omega, by omega, ⟨?spec, ?ll, ?lb, ?ol, ?ob, RL2.out, ?ro, NE2.out, ?bo, ?bs, ?hb, ?da, ?nd, ?dg⟩, rfl⟩, ?ms⟩
     case spec => have h := HSp.out; rw [show (x + 1).toNat = x.toNat + 1 by omega] at h ⊢; exact h
     case ll => rw [List.length_set]; exact HL.out.ll
     case lb =>
      intro l hl
      rcases List.mem_or_eq_of_mem_set hl with hl | rfl
      ·exact HL.out.lb l hl
      ·exact Bd.cutw (HL.out.lb _ (rd_mem z46 ls (rd samples x) hs1 (by rw [HL.out.ll]; exact hs2))) RBd.out sp0
     case ol => rw [List.length_append]; have := HL.out.ol; simp only [List.length_cons, List.length_nil]; omega
     case ob =>
      intro l hl
      rcases List.mem_append.1 hl with hl | hl
      ·exact HL.out.ob l hl
      ·rw [List.mem_singleton.1 hl]; exact RBd.out
     case ro => exact Kd.R_drop (Kd.R_far (p := ⟨gl, _, none⟩) (Kd.R_far (p := ⟨gl, _, none⟩) (Kd.R_far1 RO.out k46_E NE2.out) (fun _ hk => hk.2) _) (fun _ hk => hk.2) _)
     case bo => exact blk_far (blk_far BO.out (fun h => HG3 h.symm) _) (fun h => HG3 h.symm) _
     case bs => exact blk_far (blk_far BS.out (fun h => HG4 h.symm) _) (fun h => HG4 h.symm) _
     case hb => exact below_set (below_set HB.out HG1) HG1
     case da => exact (HDA.out.set HG2 _).set (blk_put HG2 _ _ rfl) _
     case nd => exact List.nodup_cons.2 ⟨HDn.out.1, HL.out.nd⟩
     case dg =>
      intro E hE
      rcases List.mem_cons.1 hE with rfl | hE
      ·exact HDn.out.2
      ·exact HL.out.dg E hE
     case ms => simp [intOf]; omega
    ·rw [hem, if_pos rfl] at HSp
     have HF : Aside0 (spansF lots samples spread labs o lab d = ([], false)) := ⟨by unfold spansF; rw [← HSp]⟩
     have hem' : decide ((sampR labs o lab d x).f1 < (sampR labs o lab d x).f0) = true := hem
     have HE := Aside0.mk (empty_any (sampR labs o lab d x).f0 (sampR labs o lab d x).f1 W')
     simp only [hem'] at HE
     clear hem hem' HSp
     go_wp2_with (go_at_call 76; refine Aside0.out ?_)
     refine ⟨?_⟩
     refine HE.out.mono ?_
     rintro e W6 ⟨rfl, hb⟩
     clear e0 e1
     have HDA := Aside0.mk (HDA.out.below hb)
     have HB := Aside0.mk (below_step HB.out hb)
     clear hb
     go_wp2
     refine leaves_marks (D :: Ds) _ HDA.out (List.nodup_cons.2 ⟨HDn.out.1, HL.out.nd⟩) ?_
     intro W8 hoff
     refine ⟨_, results_tmp2 rfl _ _ _, ?_⟩
     rw [HF.out]
     refine ⟨.slice none 0 0, rfl, Kd.R_nil _ _ _ _ _, hoff.below HB.out ?_⟩
     intro E hE
     rcases List.mem_cons.1 hE with rfl | hE
     ·exact HDn.out.2
     ·exact HL.out.dg E hE
  ·have hxe : x = samples.length := by omega
   have HSp := HL.out.spec
   rw [List.drop_of_length_le (by omega)] at HSp
   simp only [spansFrom] at HSp
   have HF : Aside0 (spansF lots samples spread labs o lab d = (spansOut spread ls outs samples, !ls.any emptyR)) := ⟨by unfold spansF; rw [← HSp]⟩
   have HOL : Aside0 (outs.length = samples.length) := ⟨by have := HL.out.ol; omega⟩
   clear hxe HSp
   go_upto_block 4 with fail
   go_step3
   go_upto_block 4 with fail
   go_cut [14, 16] from 70 to 76 (fun c p wc => ∃ b : Bool, c = .bool b ∧ Aside0 (b = !ls.any emptyR) ∧ Aside0 (Below w.heap.size w wc) ∧ Aside0 (Kd.R k46 46 wc w.heap.size (fun _ => True) (.slice (some ⟨gl, 0, none⟩) lots.length cl) ls) ∧ Aside0 (Kd.R k46 46 wc w.heap.size (fun _ => True) vo outs) ∧ Aside0 (DefAt wc Ds))
   case first =>
    go_wp2_with fail
    go_loopw [14, 70] (fun c q wr => ∃ k : Int, 0 ≤ k ∧ k ≤ lots.length ∧ c = .bool true ∧ q = .int .i64 k ∧ Aside0 (Below w.heap.size w wr) ∧ Aside0 ((ls.take k.toNat).any emptyR = false) ∧ Aside0 (Kd.R k46 46 wr w.heap.size (fun _ => True) (.slice (some ⟨gl, 0, none⟩) lots.length cl) ls) ∧ Aside0 (Kd.R k46 46 wr w.heap.size (fun _ => True) vo outs) ∧ Aside0 (DefAt wr Ds)) (fun _ q _ => lots.length - (intOf q).toNat)
    case atStart => exact ⟨0, by omega, by omega, rfl, rfl, ⟨HL.out.hb⟩, ⟨rfl⟩, ⟨HL.out.rl⟩, ⟨HL.out.ro⟩, ⟨HL.out.da⟩⟩
    case round =>
     obtain ⟨k, hk0, hk1, rfl, rfl, HB, HQ, RL, RO, HDA⟩ := hrel
     by_cases hkl : k < lots.length
     ·obtain ⟨q0, q1, q2, q3⟩ := get46 RL.out k hk0 hkl
      have HE := Aside0.mk (empty_any (rd_T46 ls k).f0 (rd_T46 ls k).f1)
      have HKL : Aside0 (k < ls.length) := ⟨by rw [HL.out.ll]; exact hkl⟩
      have hE : emptyR (rd_T46 ls k) = decide ((rd_T46 ls k).f1 < (rd_T46 ls k).f0) := rfl
      rw [← hE] at HE
      clear hE q2 q3
      cases hem : emptyR (rd_T46 ls k)
      all_goals
       simp only [hem] at HE
       have HM := Aside0.mk hem
       clear hem
       go_wp2_with (go_at_call 76; refine Aside0.out ?_)
       refine ⟨?_⟩
       refine (HE.out _).mono ?_
       rintro e W6 ⟨rfl, hb⟩
       have hb' := below_step (below_alloc (Below.refl _ _) _) hb
       have HB := Aside0.mk (below_step HB.out hb')
       have RL := Aside0.mk (Kd.R_below RL.out hb')
       have RO := Aside0.mk (Kd.R_below RO.out hb')
       have HDA := Aside0.mk (HDA.out.below hb')
       clear hb hb' q0 q1
       go_wp2
      ·go_roundw
       case rel => exact ⟨k + 1, by omega, by omega, rfl, rfl, HB, ⟨any_snoc emptyR z46 ls k hk0 HKL.out HQ.out HM.out⟩, RL, RO, HDA⟩
       case measure => simp [intOf]; omega
      ·go_meet
       exact ⟨false, rfl, ⟨by rw [List.any_eq_true.2 ⟨_, rd_mem z46 ls k hk0 HKL.out, HM.out⟩]; rfl⟩, HB, RL, RO, HDA⟩
     ·go_wp2
      go_meet
      exact ⟨true, rfl, ⟨by have h := HQ.out; rw [List.take_of_length_le (by rw [HL.out.ll]; omega)] at h; rw [h]; rfl⟩, HB, RL, RO, HDA⟩
   case rest =>
    obtain ⟨b, rfl, HBE, HB, RL, RO, HDA⟩ := hcut
    obtain ⟨c0', c1', c2', c3', c4'⟩ := (HJ.out.below HB.out).cells
    go_wp2
    go_loopw [83] (fun q wr => ∃ (k : Int) (oo : List S46), 0 ≤ k ∧ k ≤ samples.length ∧ q = .int .i64 k ∧ Aside0 (oo = outK spread ls samples outs k.toNat) ∧ Aside0 (Below w.heap.size w wr) ∧ Aside0 (Kd.R k46 46 wr w.heap.size (fun _ => True) (.slice (some ⟨gl, 0, none⟩) lots.length cl) ls) ∧ Aside0 (Kd.R k46 46 wr w.heap.size (fun _ => True) vo oo) ∧ Aside0 (DefAt wr Ds)) (fun q _ => samples.length - (intOf q).toNat)
    case atStart => exact ⟨0, outs, by omega, by omega, rfl, ⟨rfl⟩, HB, RL, RO, HDA⟩
    case round =>
     obtain ⟨k, oo, hk0, hk1, rfl, HOO, HB, RL, RO, HDA⟩ := hrel
     by_cases hkl : k < samples.length
     ·obtain ⟨ad1, hA1, hs0⟩ := Kd.at_int (HJ.out.below HB.out).samples k hk0 hkl
      obtain rfl := hA1
      obtain ⟨hs1, hs2⟩ := HSM.out (rd samples k) (rd_mem 0 samples k hk0 hkl)
      have hol : oo.length = samples.length := by rw [HOO.out, outK_length, HOL.out]
      have hko : k < oo.length := by omega
      obtain ⟨go, co, hvo, hgo1, hgo2, _⟩ := Kd.R_form RO.out (by omega)
      subst hvo
      have NE := HL.out.ne
      have HGG : Aside0 (gl ≠ go) := ⟨fun he => NE (by rw [he]; rfl)⟩
      have LBd : Aside0 (Bd (rd_T46 ls (rd samples k))) := ⟨HL.out.lb _ (rd_mem z46 ls (rd samples k) hs1 (by rw [HL.out.ll]; exact hs2))⟩
      clear NE hol hgo1 hgo2
      go_wp2
      refine wp_region_noPanic ?_
      refine start_ (n := 19) (S := fun w' => w'.cell? ⟨go, k.toNat * 2, none⟩ = some (.int .i64 (rd_T46 oo k).f0) ∧ w'.cell? ⟨go, k.toNat * 2 + 1, none⟩ = some (.int .i64 (rd_T46 oo k).f1) ∧ w'.cell? ⟨gl, (rd samples k).toNat * 2, none⟩ = some (.int .i64 (rd_T46 ls (rd samples k)).f0) ∧ w'.cell? ⟨gl, (rd samples k).toNat * 2 + 1, none⟩ = some (.int .i64 (rd_T46 ls (rd samples k)).f1) ∧ w'.cell? ⟨jb, 2, none⟩ = some (.int .i64 spread)) (ds := [18]) #[false, false, false, false, false, false, false, false, false, false, false, false, false, false, false, false, false, false, false] (by kernel_rfl) rfl rfl ⟨(get46 (Kd.R_drew RO.out) k hk0 hko).1, (get46 (Kd.R_drew RO.out) k hk0 hko).2.1, (get46 (Kd.R_drew RL.out) (rd samples k) hs1 hs2).1, (get46 (Kd.R_drew RL.out) (rd samples k) hs1 hs2).2.1, (HJ.out.below (below_drew1 HB.out)).cells.2.2.1⟩ (fun hHeld => ?_)
      refine with_tabW spansT.tab25 spansT.bits25 (fun HT_ HW_ => ?_)
      replace HDA := Aside0.mk (show DefAt wr.drew Ds from HDA.out)
      replace HB := Aside0.mk (below_drew1 HB.out)
      replace RL := Aside0.mk (Kd.R_drew RL.out)
      replace RO := Aside0.mk (Kd.R_drew RO.out)
      generalize wr.drew = w7' at HDA HB RL RO hHeld ⊢
      refine pure_ (i := 0) (N := some 88) (v := ?_) (a' := ?_) #[true, false, false, false, false, false, false, false, false, false, false, false, false, false, false, false, false, false, false] rfl rfl (any_of HT_.out (by kernel_rfl)) (fun _ _ _ h => h) (Or.inl ⟨by rfl, ?_⟩) ?_ ?_
      rotate_left
      ·intro w'
       go_simp
       with_reducible rfl
      rotate_left
      ·simp only [Act.put, List.setIfInBounds_toArray, List.set_cons_zero, List.set_cons_succ, i64_w, i32_w]
       rfl
      refine pure_ (i := 1) (N := some 89) (v := ?_) (a' := ?_) #[true, true, false, false, false, false, false, false, false, false, false, false, false, false, false, false, false, false, false] rfl rfl (any_of HT_.out (by kernel_rfl)) (fun _ _ _ h => h) (Or.inl ⟨by rfl, ?_⟩) ?_ ?_
      rotate_left
      ·intro w'
       go_simp
       with_reducible rfl
      rotate_left
      ·simp only [Act.put, List.setIfInBounds_toArray, List.set_cons_zero, List.set_cons_succ, i64_w, i32_w]
       rfl
      refine pure_ (i := 2) (N := some 90) (v := ?_) (a' := ?_) #[true, true, true, false, false, false, false, false, false, false, false, false, false, false, false, false, false, false, false] rfl rfl (any_of HT_.out (by kernel_rfl)) (fun _ _ _ h => h) (Or.inl ⟨by rfl, ?_⟩) ?_ ?_
      rotate_left
      ·intro w'
       go_simp
       with_reducible rfl
      rotate_left
      ·simp only [Act.put, List.setIfInBounds_toArray, List.set_cons_zero, List.set_cons_succ, i64_w, i32_w]
       rfl
      refine pure_ (i := 3) (N := some 91) (v := ?_) (a' := ?_) #[true, true, true, true, false, false, false, false, false, false, false, false, false, false, false, false, false, false, false] rfl rfl (any_of HT_.out (by kernel_rfl)) (fun _ _ _ h => h) (Or.inl ⟨by rfl, ?_⟩) ?_ ?_
      rotate_left
      ·intro w'
       go_simp
       with_reducible rfl
      rotate_left
      ·simp only [Act.put, List.setIfInBounds_toArray, List.set_cons_zero, List.set_cons_succ, i64_w, i32_w]
       rfl
      refine pure_ (i := 4) (N := some 92) (v := ?_) (a' := ?_) #[true, true, true, true, true, false, false, false, false, false, false, false, false, false, false, false, false, false, false] rfl rfl (any_of HT_.out (by kernel_rfl)) (fun _ _ _ h => h) (Or.inl ⟨by rfl, ?_⟩) ?_ ?_
      rotate_left
      ·intro w'
       go_simp
       with_reducible rfl
      rotate_left
      ·simp only [Act.put, List.setIfInBounds_toArray, List.set_cons_zero, List.set_cons_succ, i64_w, i32_w]
       rfl
      refine pure_ (i := 6) (N := some 94) (v := ?_) (a' := ?_) #[true, true, true, true, true, false, true, false, false, false, false, false, false, false, false, false, false, false, false] rfl rfl (any_of HT_.out (by kernel_rfl)) (fun _ _ _ h => h) (Or.inl ⟨by rfl, ?_⟩) ?_ ?_
      rotate_left
      ·intro w'
       go_simp
       with_reducible rfl
      rotate_left
      ·simp only [Act.put, List.setIfInBounds_toArray, List.set_cons_zero, List.set_cons_succ, i64_w, i32_w]
       rfl
      refine pure_ (i := 7) (N := some 95) (v := ?_) (a' := ?_) #[true, true, true, true, true, false, true, true, false, false, false, false, false, false, false, false, false, false, false] rfl rfl (any_of HT_.out (by kernel_rfl)) (fun _ _ _ h => h) (Or.inl ⟨by rfl, ?_⟩) ?_ ?_
      rotate_left
      ·intro w'
       go_simp
       with_reducible rfl
      rotate_left
      ·simp only [Act.put, List.setIfInBounds_toArray, List.set_cons_zero, List.set_cons_succ, i64_w, i32_w]
       rfl
      refine pure_ (i := 8) (N := some 96) (v := ?_) (a' := ?_) #[true, true, true, true, true, false, true, true, true, false, false, false, false, false, false, false, false, false, false] rfl rfl (any_of HT_.out (by kernel_rfl)) (fun _ _ _ h => h) (Or.inl ⟨by rfl, ?_⟩) ?_ ?_
      rotate_left
      ·intro w'
       go_simp
       with_reducible rfl
      rotate_left
      ·simp only [Act.put, List.setIfInBounds_toArray, List.set_cons_zero, List.set_cons_succ, i64_w, i32_w]
       rfl
      refine pure_ (i := 10) (N := some 98) (v := ?_) (a' := ?_) #[true, true, true, true, true, false, true, true, true, false, true, false, false, false, false, false, false, false, false] rfl rfl (any_of HT_.out (by kernel_rfl)) (fun _ _ _ h => h) (Or.inl ⟨by rfl, ?_⟩) ?_ ?_
      rotate_left
      ·intro w'
       go_simp
       with_reducible rfl
      rotate_left
      ·simp only [Act.put, List.setIfInBounds_toArray, List.set_cons_zero, List.set_cons_succ, i64_w, i32_w]
       rfl
      refine pure_ (i := 11) (N := some 99) (v := ?_) (a' := ?_) #[true, true, true, true, true, false, true, true, true, false, true, true, false, false, false, false, false, false, false] rfl rfl (any_of HT_.out (by kernel_rfl)) (fun _ _ _ h => h) (Or.inl ⟨by rfl, ?_⟩) ?_ ?_
      rotate_left
      ·intro w'
       go_simp
       with_reducible rfl
      rotate_left
      ·simp only [Act.put, List.setIfInBounds_toArray, List.set_cons_zero, List.set_cons_succ, i64_w, i32_w]
       rfl
      refine pure_ (i := 12) (N := some 100) (v := ?_) (a' := ?_) #[true, true, true, true, true, false, true, true, true, false, true, true, true, false, false, false, false, false, false] rfl rfl (any_of HT_.out (by kernel_rfl)) (fun _ _ _ h => h) (Or.inl ⟨by rfl, ?_⟩) ?_ ?_
      rotate_left
      ·intro w'
       go_simp
       with_reducible rfl
      rotate_left
      ·simp only [Act.put, List.setIfInBounds_toArray, List.set_cons_zero, List.set_cons_succ, i64_w, i32_w]
       rfl
      refine pure_ (i := 13) (N := some 101) (v := ?_) (a' := ?_) #[true, true, true, true, true, false, true, true, true, false, true, true, true, true, false, false, false, false, false] rfl rfl (any_of HT_.out (by kernel_rfl)) (fun _ _ _ h => h) (Or.inl ⟨by rfl, ?_⟩) ?_ ?_
      rotate_left
      ·intro w'
       go_simp
       with_reducible rfl
      rotate_left
      ·simp only [Act.put, List.setIfInBounds_toArray, List.set_cons_zero, List.set_cons_succ, i64_w, i32_w]
       rfl
      refine take_ (i := 5) (N := some 93) (v := ?_) (a' := ?_) #[true, true, true, true, true, true, true, true, true, false, true, true, true, true, false, false, false, false, false] rfl rfl (take_ofW HT_.out HW_.out (by kernel_rfl)) (fun _ _ _ h => h) (Or.inl ⟨by rfl, ?_⟩) hHeld ?_ ?_
      rotate_left
      ·rintro w' ⟨s0, s1, s2, s3, s4⟩
       go_simp
       with_reducible rfl
      rotate_left
      ·simp only [Act.put, List.setIfInBounds_toArray, List.set_cons_zero, List.set_cons_succ, i64_w, i32_w]
       rfl
      refine take_ (i := 9) (N := some 97) (v := ?_) (a' := ?_) #[true, true, true, true, true, true, true, true, true, true, true, true, true, true, false, false, false, false, false] rfl rfl (take_ofW HT_.out HW_.out (by kernel_rfl)) (fun _ _ _ h => h) (Or.inl ⟨by rfl, ?_⟩) hHeld ?_ ?_
      rotate_left
      ·rintro w' ⟨s0, s1, s2, s3, s4⟩
       go_simp
       with_reducible rfl
      rotate_left
      ·simp only [Act.put, List.setIfInBounds_toArray, List.set_cons_zero, List.set_cons_succ, i64_w, i32_w]
       rfl
      refine take_ (i := 14) (N := some 102) (v := ?_) (a' := ?_) #[true, true, true, true, true, true, true, true, true, true, true, true, true, true, true, false, false, false, false] rfl rfl (take_ofW HT_.out HW_.out (by kernel_rfl)) (fun _ _ _ h => h) (Or.inl ⟨by rfl, ?_⟩) hHeld ?_ ?_
      rotate_left
      ·rintro w' ⟨s0, s1, s2, s3, s4⟩
       go_simp
       with_reducible rfl
      rotate_left
      ·simp only [Act.put, List.setIfInBounds_toArray, List.set_cons_zero, List.set_cons_succ, i64_w, i32_w]
       rfl
      refine one_ (i := 15) (N := some 103) #[true, true, true, true, true, true, true, true, true, true, true, true, true, true, true, true, false, false, false] rfl rfl (one_of HT_.out (by kernel_rfl)) (by decide) (fun K hK => ?_)
      refine goes_ Try.func77 (by kernel_rfl) rfl #[.agg #[.int .i64 (rd_T46 ls (rd samples k)).f0, .int .i64 (rd_T46 ls (rd samples k)).f1], .int .i64 spread] (by rfl) rfl rfl (by simp only [List.map_toArray, List.map_cons, List.map_nil]; rfl) ?_
      with_reducible refine (wider_any (rd_T46 ls (rd samples k)).f0 (rd_T46 ls (rd samples k)).f1 spread _ (by have := LBd.out; unfold Bd at this; omega) (by have := LBd.out; unfold Bd at this; omega) (by have := LBd.out; unfold Bd at this; omega) (by have := LBd.out; unfold Bd at this; omega) sp0 sp1).mono ?_
      rintro e w8 ⟨rfl, hb⟩
      refine ⟨_, rfl, ?_⟩
      have HDA := Aside0.mk (HDA.out.below hb)
      have HB := Aside0.mk (below_step HB.out hb)
      have RL := Aside0.mk (Kd.R_below RL.out hb)
      have RO := Aside0.mk (Kd.R_below RO.out hb)
      clear hb
      refine hK.out _ _ ⟨(get46 RO.out k hk0 hko).1, (get46 RO.out k hk0 hko).2.1, (get46 RL.out (rd samples k) hs1 hs2).1, (get46 RL.out (rd samples k) hs1 hs2).2.1, (HJ.out.below HB.out).cells.2.2.1⟩ (fun hHeld => ?_)
      clear hK K
      refine norm_ (a' := ?_) ?_ ?_
      rotate_left
      ·show Act.put _ (some 103) _ = _
       simp only [Act.put, List.setIfInBounds_toArray, List.set_cons_zero, List.set_cons_succ, i64_w, i32_w]
       rfl
      refine one_ (i := 16) (N := some 104) #[true, true, true, true, true, true, true, true, true, true, true, true, true, true, true, true, true, false, false] rfl rfl (one_of HT_.out (by kernel_rfl)) (by decide) (fun K hK => ?_)
      refine goes_ Try.func75 (by kernel_rfl) rfl #[.agg #[.int .i64 (rd_T46 oo k).f0, .int .i64 (rd_T46 oo k).f1], .agg #[.int .i64 ((rd_T46 ls (rd samples k)).f0 - spread), .int .i64 ((rd_T46 ls (rd samples k)).f1 + spread)]] (by rfl) rfl rfl (by simp only [List.map_toArray, List.map_cons, List.map_nil]; rfl) ?_
      with_reducible refine (cut_any _ _ _ _ _).mono ?_
      rintro e w9 ⟨rfl, hb⟩
      refine ⟨_, rfl, ?_⟩
      have HDA := Aside0.mk (HDA.out.below hb)
      have HB := Aside0.mk (below_step HB.out hb)
      have RL := Aside0.mk (Kd.R_below RL.out hb)
      have RO := Aside0.mk (Kd.R_below RO.out hb)
      clear hb
      refine hK.out _ _ ⟨(get46 RO.out k hk0 hko).1, (get46 RO.out k hk0 hko).2.1, (get46 RL.out (rd samples k) hs1 hs2).1, (get46 RL.out (rd samples k) hs1 hs2).2.1, (HJ.out.below HB.out).cells.2.2.1⟩ (fun hHeld => ?_)
      clear hK K
      refine norm_ (a' := ?_) ?_ ?_
      rotate_left
      ·show Act.put _ (some 104) _ = _
       simp only [Act.put, List.setIfInBounds_toArray, List.set_cons_zero, List.set_cons_succ, i64_w, i32_w]
       rfl
      refine pure_ (i := 17) (N := some 105) (v := ?_) (a' := ?_) #[true, true, true, true, true, true, true, true, true, true, true, true, true, true, true, true, true, true, false] rfl rfl (any_of HT_.out (by kernel_rfl)) (fun _ _ _ h => h) (Or.inl ⟨by rfl, ?_⟩) ?_ ?_
      rotate_left
      ·intro w'
       go_simp
       with_reducible rfl
      rotate_left
      ·simp only [Act.put, List.setIfInBounds_toArray, List.set_cons_zero, List.set_cons_succ, i64_w, i32_w]
       rfl
      refine last_ (i := 18) (N := none) #[true, true, true, true, true, true, true, true, true, true, true, true, true, true, true, true, true, true, true] rfl rfl (one_of HT_.out (by kernel_rfl)) (by decide) (fun K hK => ?_)
      obtain ⟨q0, q1, q2, q3⟩ := get46 RO.out k hk0 hko
      refine skip_ (w1 := ?_) (by rfl) rfl ?_ ?_
      rotate_left
      ·go_simp
       rfl
      refine hK.out _ _ ?_
      clear hK K
      refine done_ (done_of HT_.out (by kernel_rfl)) ?_
      refine NoPanic.normal ?_
      clear hHeld
      have RO2 := Aside0.mk (set46 RO.out k hk0 hko (max (rd_T46 oo k).f0 ((rd_T46 ls (rd samples k)).f0 - spread)) (min (rd_T46 oo k).f1 ((rd_T46 ls (rd samples k)).f1 + spread)))
      have HG1 : w.heap.size ≤ go := Kd.R_base RO.out go rfl
      obtain ⟨gcs, HG2⟩ := Kd.R_typed RO.out go rfl
      have HG := Aside0.mk (And.intro HG1 HG2)
      clear HG1 HG2 q0 q1 q2 q3
      go_wp2
      go_roundw
      case rel =>
       refine ⟨k + 1, _, by omega, by omega, rfl, ?_, ⟨below_set (below_set HB.out HG.out.1) HG.out.1⟩, ⟨Kd.R_drop (Kd.R_far (p := ⟨go, _, none⟩) (Kd.R_far (p := ⟨go, _, none⟩) (Kd.R_far1 RL.out k46_E (g := go) (fun he => HGG.out (by cases he; rfl))) (fun _ hk => hk.2) _) (fun _ hk => hk.2) _)⟩, RO2, ⟨(HDA.out.set HG.out.2 _).set (blk_put HG.out.2 _ _ rfl) _⟩⟩
       constructor
       rw [show (k + 1).toNat = k.toNat + 1 by omega]
       simp only [outK, HOO.out, show ((k.toNat : Nat) : Int) = k by omega]
       rfl
      case measure => simp [intOf]; omega
     ·have HE : Aside0 (oo = spansOut spread ls outs samples) := ⟨by rw [HOO.out, show k.toNat = samples.length by omega, outK_all spread ls samples outs HOL.out]⟩
      go_wp2
      refine leaves_marks Ds _ HDA.out HL.out.nd ?_
      intro W8 hoff
      refine ⟨_, results_tmp2 rfl _ _ _, ?_⟩
      rw [HF.out]
      refine ⟨vo, by rw [HBE.out]; rfl, ?_, hoff.below HB.out HL.out.dg⟩
      rw [← HE.out]
      exact hoff.row HDA.out RO.out
end Go.Proofs.Ytcpbhklaffgokaa.Q
