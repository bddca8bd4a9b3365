import Derived.Test.YtcpbhklaffgokaaH5
import Derived.WalkMore
namespace Go.Proofs.Ytcpbhklaffgokaa.Q
open Go.RowKit Go.Proofs.YtcpbhklaffgokaaW.PrintWords Go.Proofs.YtcpbhklaffgokaaW.PrintLast Go.Proofs.YtcpbhklaffgokaaW.PrintMore
set_option linter.unusedVariables false
set_option linter.unusedSimpArgs false
attribute [local go_sem] Oper.semAt_some

def cutR (r o : S46) : S46 := ⟨max r.f0 o.f0, min r.f1 o.f1⟩
def widR (r : S46) (n : Int) : S46 := ⟨r.f0 - n, r.f1 + n⟩
def emptyR (r : S46) : Bool := decide (r.f1 < r.f0)
def far2 : S46 := ⟨-1073741824, 1073741824⟩
def sampR (labs : List S75) (o : Nat → Bool) (lab d i : Int) : S46 := (readsFrom o lab d i 0 labs).foldl cutR far2
def spansFrom (labs : List S75) (spread : Int) (o : Nat → Bool) (lab d : Int) : Nat → List Int → List S46 → List S46 → Option (List S46 × List S46)
  | _, [], lots, out => some (lots, out)
  | i, s :: ss, lots, out =>
    let r := sampR labs o lab d i
    if emptyR r = true then none else spansFrom labs spread o lab d (i + 1) ss (lots.set s.toNat (cutR (lots.getD s.toNat z46) (widR r spread))) (out ++ [r])
def spansOut (spread : Int) (lots : List S46) : List S46 → List Int → List S46
  | r :: rs, s :: ss => cutR r (widR (lots.getD s.toNat z46) spread) :: spansOut spread lots rs ss
  | _, _ => []
def spansF (lots : List S46) (samples : List Int) (spread : Int) (labs : List S75) (o : Nat → Bool) (lab d : Int) : List S46 × Bool :=
  match spansFrom labs spread o lab d 0 samples lots [] with
  | none => ([], false)
  | some (lots', out) => (spansOut spread lots' out samples, !lots'.any emptyR)
structure RoundOk (lots : List S46) (samples : List Int) (spread : Int) (labs : List S75) : Prop where
  l0 : 0 < lots.length
  l4 : lots.length ≤ 4
  s8 : samples.length ≤ 8
  b6 : labs.length ≤ 6
  lot : ∀ x ∈ lots, 0 ≤ x.f0 ∧ x.f0 ≤ x.f1 ∧ x.f1 ≤ 1000
  smp : ∀ x ∈ samples, 0 ≤ x ∧ x < lots.length
  sp0 : 0 ≤ spread
  sp1 : spread ≤ 100
  labs : ∀ x ∈ labs, LabOk samples.length x
/-- what j points to -/
structure JAt (w : World) (jb : Nat) (A0 : Option Addr) (c0 : Nat) (lots : List S46) (A1 : Option Addr) (c1 : Nat) (samples : List Int) (spread : Int) (A3 : Option Addr) (c3 : Nat) (labs : List S75) (mp : Value) : Prop where
  blk : w.heap[jb]? = some (.cells #[.slice A0 lots.length c0, .slice A1 samples.length c1, .int .i64 spread, .slice A3 labs.length c3, mp] 107 (0, 0))
  lots : Kd.C k46 w A0 lots.length lots
  samples : (Kd.int .i64).C w A1 samples.length samples
  labs : Kd.C k75 w A3 labs.length labs
theorem JAt.below {w w' : World} {jb : Nat} {A0 : Option Addr} {c0 : Nat} {lots : List S46} {A1 : Option Addr} {c1 : Nat} {samples : List Int} {spread : Int} {A3 : Option Addr} {c3 : Nat} {labs : List S75} {mp : Value}
    (h : JAt w jb A0 c0 lots A1 c1 samples spread A3 c3 labs mp) (hb : Below w.heap.size w w') : JAt w' jb A0 c0 lots A1 c1 samples spread A3 c3 labs mp :=
  ⟨blk_below h.blk hb, Kd.C_below h.lots hb, Kd.C_below h.samples hb, Kd.C_below h.labs hb⟩
theorem JAt.cells {w : World} {jb : Nat} {A0 : Option Addr} {c0 : Nat} {lots : List S46} {A1 : Option Addr} {c1 : Nat} {samples : List Int} {spread : Int} {A3 : Option Addr} {c3 : Nat} {labs : List S75} {mp : Value}
    (h : JAt w jb A0 c0 lots A1 c1 samples spread A3 c3 labs mp) : w.cell? ⟨jb, 0, none⟩ = some (.slice A0 lots.length c0) ∧ w.cell? ⟨jb, 1, none⟩ = some (.slice A1 samples.length c1) ∧ w.cell? ⟨jb, 2, none⟩ = some (.int .i64 spread) ∧ w.cell? ⟨jb, 3, none⟩ = some (.slice A3 labs.length c3) ∧ w.cell? ⟨jb, 4, none⟩ = some mp :=
  ⟨(blk_cell h.blk 0).trans rfl, (blk_cell h.blk 1).trans rfl, (blk_cell h.blk 2).trans rfl, (blk_cell h.blk 3).trans rfl, (blk_cell h.blk 4).trans rfl⟩
def SpansPost (r : List S46 × Bool) (w : World) (e : Ending) (w' : World) : Prop :=
  ∃ v : Value, e = .returned (.tuple #[v, .bool r.2]) ∧ Kd.R k46 46 w' w.heap.size (fun _ => True) v r.1 ∧ Below w.heap.size w w'
/-- the marks of the loops over a function that have ended -/
def marks (Ds : List Nat) : List Deferred := Ds.map fun D => { target := .collected D, args := #[] }

def Bd (r : S46) : Prop := -2000000000 ≤ r.f0 ∧ r.f0 ≤ 2000000000 ∧ -2000000000 ≤ r.f1 ∧ r.f1 ≤ 2000000000
theorem Bd.cutw {l r : S46} {s : Int} (hl : Bd l) (hr : Bd r) (hs : 0 ≤ s) : Bd (cutR l (widR r s)) := by
  unfold Bd cutR widR at *
  simp only
  omega
def DefAt (W : World) (Ds : List Nat) : Prop := ∀ D ∈ Ds, W.heap[D]? = some (.deferred (some []))
theorem DefAt.below {W W' : World} {Ds : List Nat} (h : DefAt W Ds) (hb : Below W.heap.size W W') : DefAt W' Ds := fun D hD => blk_below (h D hD) hb
theorem DefAt.set {W : World} {Ds : List Nat} (h : DefAt W Ds) {g i : Nat} {cs : Array Value} {t : TypeId} (hg : W.heap[g]? = some (.cells cs t (0, 0))) (v : Value) : DefAt (W.setCell ⟨g, i, none⟩ v) Ds := fun D hD => by
  have h1 := h D hD
  have hne : D ≠ g := fun e => by subst e; rw [h1] at hg; cases hg
  exact (Below.heap_setCell W ⟨g, i, none⟩ v D hne).trans h1
/-- the loop over the samples -/
structure L1 (jb : Nat) (A0 : Option Addr) (c0 : Nat) (lots : List S46) (A1 : Option Addr) (c1 : Nat) (samples : List Int) (spread : Int) (A3 : Option Addr) (c3 : Nat) (labs : List S75) (mp : Value) (o : Nat → Bool) (lab d : Int) (w : World)
    (gl cl : Nat) (vo : Value) (x : Int) (ls outs : List S46) (Ds : List Nat) (W : World) : Prop where
  spec : spansFrom labs spread o lab d x.toNat (samples.drop x.toNat) ls outs = spansFrom labs spread o lab d 0 samples lots []
  ll : ls.length = lots.length
  lb : ∀ l ∈ ls, Bd l
  ol : (outs.length : Int) = x
  ob : ∀ l ∈ outs, Bd l
  rl : Kd.R k46 46 W w.heap.size (fun _ => True) (.slice (some ⟨gl, 0, none⟩) lots.length cl) ls
  ro : Kd.R k46 46 W w.heap.size (fun _ => True) vo outs
  ne : some gl ≠ vo.ownBlock
  bo : W.heap[w.heap.size]? = some (.cells #[.bool (o 0), .bool (o 1), .bool (o 2), .bool (o 3), .bool (o 4), .bool (o 5)] 85 (0, 0))
  bs : W.heap[w.heap.size + 1]? = some (.cells #[.int .i64 lab, .int .i64 d] 94 (0, 0))
  hb : Below w.heap.size w W
  da : DefAt W Ds
  nd : Ds.Nodup
  dg : ∀ D ∈ Ds, w.heap.size ≤ D
theorem alloc5 (W : World) (o1 o2 o3 o4 o5 : Obj) :
    (((((W.alloc o1).alloc o2).alloc o3).alloc o4).alloc o5).heap[W.heap.size]? = some o1 ∧ (((((W.alloc o1).alloc o2).alloc o3).alloc o4).alloc o5).heap[W.heap.size + 1]? = some o2 ∧
    (((((W.alloc o1).alloc o2).alloc o3).alloc o4).alloc o5).heap[W.heap.size + 1 + 1]? = some o3 ∧ (((((W.alloc o1).alloc o2).alloc o3).alloc o4).alloc o5).heap[W.heap.size + 1 + 1 + 1]? = some o4 ∧
    (((((W.alloc o1).alloc o2).alloc o3).alloc o4).alloc o5).heap[W.heap.size + 1 + 1 + 1 + 1]? = some o5 ∧ (((((W.alloc o1).alloc o2).alloc o3).alloc o4).alloc o5).heap.size = W.heap.size + 5 ∧
    Below W.heap.size W (((((W.alloc o1).alloc o2).alloc o3).alloc o4).alloc o5) := by
  have h1 := blk_alloc (blk_alloc (blk_alloc (blk_alloc (blk_new W o1) o2) o3) o4) o5
  have h2 := blk_alloc (blk_alloc (blk_alloc (blk_new (W.alloc o1) o2) o3) o4) o5
  have h3 := blk_alloc (blk_alloc (blk_new ((W.alloc o1).alloc o2) o3) o4) o5
  have h4 := blk_alloc (blk_new (((W.alloc o1).alloc o2).alloc o3) o4) o5
  have h5 := blk_new ((((W.alloc o1).alloc o2).alloc o3).alloc o4) o5
  simp only [World.size_alloc] at h1 h2 h3 h4 h5
  exact ⟨h1, h2, h3, h4, h5, by simp, below_alloc (below_alloc (below_alloc (below_alloc (below_alloc (Below.refl _ W) o1) o2) o3) o4) o5⟩
theorem ko_below {W W' : World} (hb : Below W.heap.size W W') : KeepsOthers W W' := ⟨hb.size, fun k o hk _ => blk_below hk hb⟩
/-- between two rounds of the loop over the readings -/
def RI (R : Nat) (W0 : World) (pre : List S46) (W : World) : Prop :=
  W.heap[R]? = some (.cells #[.int .i64 (pre.foldl cutR far2).f0, .int .i64 (pre.foldl cutR far2).f1] 46 (0, 0)) ∧ Kb W0.heap.size R W0 W
theorem RI_own (R : Nat) (W0 : World) (hR : R < W0.heap.size) : OwnFrom W0.heap.size (RI R W0) := fun s A B row hs hg hr => by
  obtain ⟨h1, h2⟩ := hs
  have hne : ∀ k, k < W0.heap.size → some k ≠ row := fun k hk e => by have := (hr k e.symm).1; omega
  refine ⟨(hg.block R (blk_lt h1) (hne R hR)).trans h1, h2.trans ⟨hg.os, hg.tape, hg.output, hg.size, fun k hk _ => hg.block k (Nat.lt_of_lt_of_le hk h2.size) (hne k hk)⟩⟩
def RAx (W0 : World) (t : S46 → Nat → Array Value) (x : S46) (a : Act) (W : World) : Prop :=
  ∃ B, W0.heap.size ≤ B ∧ W.heap[B]? = some (.cells #[.int .i64 x.f0, .int .i64 x.f1] 46 (0, 0)) ∧ a = { tmps := t x B, defers := [] }
theorem RAx_own (W0 : World) (t : S46 → Nat → Array Value) (x : S46) (a : Act) : OwnFrom W0.heap.size (fun (_ : Unit) W => RAx W0 t x a W) := fun s A B row hs hg hr => by
  obtain ⟨k, h1, h2, h3⟩ := hs
  refine ⟨k, h1, (hg.block k (blk_lt h2) (fun e => ?_)).trans h2, h3⟩
  obtain ⟨_, ob, ho, hc⟩ := hr k e.symm
  rw [h2] at ho
  cases ho
  cases hc
theorem get46 {W : World} {base : Nat} {ok : Nat → Prop} {g n cap : Nat} {xs : List S46} (h : Kd.R k46 46 W base ok (.slice (some ⟨g, 0, none⟩) n cap) xs) (i : Int) (h0 : 0 ≤ i) (h1 : i < n) :
    W.cell? ⟨g, i.toNat * 2, none⟩ = some (.int .i64 (rd_T46 xs i).f0) ∧ W.cell? ⟨g, i.toNat * 2 + 1, none⟩ = some (.int .i64 (rd_T46 xs i).f1) ∧
    W.frozen? ⟨g, i.toNat * 2, none⟩ = false ∧ W.frozen? ⟨g, i.toNat * 2 + 1, none⟩ = false := by
  obtain ⟨c, hl, hM, hc, hf⟩ := Kd.R_elem h z46 i h0 h1
  obtain rfl := k46_openM hM
  exact ⟨hc 0 _ rfl, hc 1 _ rfl, hf 0, hf 1⟩
theorem set46 {W : World} {base : Nat} {ok : Nat → Prop} {g n cap : Nat} {xs : List S46} (h : Kd.R k46 46 W base ok (.slice (some ⟨g, 0, none⟩) n cap) xs) (i : Int) (h0 : 0 ≤ i) (h1 : i < n) (a b : Int) :
    Kd.R k46 46 ((W.setCell ⟨g, i.toNat * 2, none⟩ (.int .i64 a)).setCell ⟨g, i.toNat * 2 + 1, none⟩ (.int .i64 b)) base ok (.slice (some ⟨g, 0, none⟩) n cap) (xs.set i.toNat ⟨a, b⟩) := by
  obtain ⟨c, hl, hM, hc, hf⟩ := Kd.R_elem h z46 i h0 h1
  obtain rfl := k46_openM hM
  exact (Kd.R_seg h i h0 h1 (j := 0) (seg := [.int .i64 a, .int .i64 b]) (okp := fun _ => False) hl hc (Nat.le_refl 2) (x' := ⟨a, b⟩) (k46_mkM _ _ _ ⟨a, b⟩) (fun _ hk => hk.elim)).1
theorem k46_E : k46.E = [] := rfl
theorem DefAt.grown {W W' : World} {Ds : List Nat} (h : DefAt W Ds) {row : Option Nat} (hg : W.grownBy W' row) (hr : ∀ k, row = some k → ∃ cs, W.heap[k]? = some (.cells cs 46 (0, 0))) : DefAt W' Ds := fun D hD => by
  have h1 := h D hD
  refine (hg.block D (blk_lt h1) (fun e => ?_)).trans h1
  obtain ⟨cs, hc⟩ := hr D e.symm
  rw [h1] at hc
  cases hc
/-- only the blocks Ds may differ -/
structure OffMarks (Ds : List Nat) (A B : World) : Prop where
  os : B.os = A.os
  tape : B.tape = A.tape
  output : B.output = A.output
  size : B.heap.size = A.heap.size
  block : ∀ k, k ∉ Ds → B.heap[k]? = A.heap[k]?
theorem leaves_marks {n : Nat} {P : Program} {fn : Func} {tmps : Array Value} {R : Ending → World → Prop} : ∀ (Ds : List Nat) (W : World), DefAt W Ds → Ds.Nodup →
    (∀ W', OffMarks Ds W W' → LeavesIn Fence.wide n P fn tmps R [] .returning W') → LeavesInM Fence.wide n P fn tmps R (marks Ds) .returning W := by
  intro Ds
  induction Ds with
  | nil => exact fun W _ _ h => h W ⟨rfl, rfl, rfl, rfl, fun _ _ => rfl⟩
  | cons D Ds ih =>
    intro W hda hnd h
    obtain ⟨hD, hnd⟩ := List.nodup_cons.1 hnd
    have h1 := hda D (List.mem_cons_self ..)
    refine ⟨by simp, .inl ⟨D, _, rfl, run_takeDeferred h1, ?_⟩⟩
    refine ih _ (fun E hE => ?_) hnd (fun W' hW' => h W' ?_)
    · exact (World.putObj_heap_other (fun e : E = D => hD (e ▸ hE))).trans (hda E (List.mem_cons_of_mem _ hE))
    · refine ⟨hW'.os, hW'.tape, hW'.output, hW'.size.trans (by simp), fun k hk => ?_⟩
      simp only [List.mem_cons, not_or] at hk
      exact (hW'.block k hk.2).trans (World.putObj_heap_other hk.1)
/-- what is said of a world stands behind the marks, if it is said of cells alone -/
theorem OffMarks.below {Ds : List Nat} {w A B : World} (h : OffMarks Ds A B) (hb : Below w.heap.size w A) (hd : ∀ D ∈ Ds, w.heap.size ≤ D) : Below w.heap.size w B :=
  hb.trans ⟨h.os, h.tape, h.output, Nat.le_of_eq h.size.symm, fun k hk => h.block k (fun hm => by have := hd k hm; omega)⟩
theorem OffMarks.row {Ds : List Nat} {A B : World} (h : OffMarks Ds A B) (hda : DefAt A Ds) {base : Nat} {v : Value} {xs : List S46} (hr : Kd.R k46 46 A base (fun _ => True) v xs) : Kd.R k46 46 B base (fun _ => True) v xs := by
  have h1 := Kd.R_tight k46_E hr
  refine Kd.R_mono (Kd.R_move h1 (fun k hk => h.block k (fun hm => ?_))) (fun _ _ => trivial)
  obtain ⟨cs, hc⟩ := Kd.R_typed hr k hk.symm
  have := hda k hm
  rw [hc] at this
  cases this
theorem readsFrom_bd (o : Nat → Bool) (lab d i : Int) (m : Nat) (hi0 : 0 ≤ i) (hi : i < m) (hd : -2000 ≤ d) (hd' : d ≤ 2000) : ∀ (xs : List S75) (k : Nat), (∀ x ∈ xs, LabOk m x) → ∀ y ∈ readsFrom o lab d i k xs, -4000 ≤ y.f0 ∧ y.f0 ≤ 4000 ∧ -4000 ≤ y.f1 ∧ y.f1 ≤ 4000 := by
  intro xs
  induction xs with
  | nil => intro k _ y hy; simp [readsFrom] at hy
  | cons x xs ih =>
    intro k hx y hy
    have ih := ih (k + 1) (fun z hz => hx z (List.mem_cons_of_mem _ hz))
    simp only [readsFrom] at hy
    split at hy
    · exact ih y hy
    · rcases List.mem_cons.1 hy with rfl | hy
      · obtain ⟨t0, t1, t2, t3⟩ := hx x (List.mem_cons_self ..)
        have h := t3 (rdL x i) (rd_mem 0 x.f1 i hi0 (by omega))
        unfold rangeOf
        simp only
        split <;> omega
      · exact ih y hy
theorem foldl_bd (ys : List S46) (h : ∀ y ∈ ys, -4000 ≤ y.f0 ∧ y.f0 ≤ 4000 ∧ -4000 ≤ y.f1 ∧ y.f1 ≤ 4000) : ∀ (a : S46), Bd a → Bd (ys.foldl cutR a) := by
  induction ys with
  | nil => exact fun a ha => ha
  | cons y ys ih =>
    intro a ha
    refine ih (fun z hz => h z (List.mem_cons_of_mem _ hz)) _ ?_
    have := h y (List.mem_cons_self ..)
    unfold Bd cutR at *
    simp only
    omega
theorem sampR_bd (labs : List S75) (m : Nat) (o : Nat → Bool) (lab d i : Int) (hi0 : 0 ≤ i) (hi : i < m) (hl : ∀ x ∈ labs, LabOk m x) (hd : -2000 ≤ d) (hd' : d ≤ 2000) : Bd (sampR labs o lab d i) :=
  foldl_bd _ (readsFrom_bd o lab d i m hi0 hi hd hd' labs 0 hl) far2 (by refine ⟨?_, ?_, ?_, ?_⟩ <;> decide)
def outK (spread : Int) (ls : List S46) (samples : List Int) (outs : List S46) : Nat → List S46
  | 0 => outs
  | k + 1 => (outK spread ls samples outs k).set k (cutR ((outK spread ls samples outs k).getD k z46) (widR (ls.getD (rd samples k).toNat z46) spread))
theorem outK_length (spread : Int) (ls : List S46) (samples : List Int) (outs : List S46) : ∀ k, (outK spread ls samples outs k).length = outs.length
  | 0 => rfl
  | k + 1 => by simp only [outK, List.length_set]; exact outK_length spread ls samples outs k
theorem outK_cons (spread : Int) (ls : List S46) (s : Int) (ss : List Int) (r : S46) (rs : List S46) : ∀ k, outK spread ls (s :: ss) (r :: rs) (k + 1) = cutR r (widR (ls.getD s.toNat z46) spread) :: outK spread ls ss rs k
  | 0 => by simp [outK, rd]
  | k + 1 => by
    have ih := outK_cons spread ls s ss r rs k
    have e : rd (s :: ss) ((k + 1 : Nat) : Int) = rd ss (k : Int) := by simp [rd]
    conv => lhs; unfold outK
    rw [ih, e]
    simp [outK]
theorem outK_all (spread : Int) (ls : List S46) : ∀ (samples : List Int) (outs : List S46), outs.length = samples.length → outK spread ls samples outs samples.length = spansOut spread ls outs samples
  | [], outs, h => by
    obtain rfl := List.eq_nil_of_length_eq_zero h
    rfl
  | s :: ss, [], h => by simp at h
  | s :: ss, r :: rs, h => by
    rw [List.length_cons, outK_cons, spansOut, outK_all spread ls ss rs (by simpa using h)]
end Go.Proofs.Ytcpbhklaffgokaa.Q
