import Derived.Test.YtcpbhklaffgokaaH13
namespace Go.Proofs.Ytcpbhklaffgokaa.Q
open Go.RowKit Go.Proofs.YtcpbhklaffgokaaW.PrintWords Go.Proofs.YtcpbhklaffgokaaW.PrintLast Go.Proofs.YtcpbhklaffgokaaW.PrintMore
set_option linter.unusedVariables false
set_option linter.unusedSimpArgs false
theorem info23c : (Try.prog.info? 23).map (fun i => (i.zero, i.size, i.bytes)) = some (some (Value.slice none 0 0), 1, 24) := by kernel_rfl
theorem clone_any (base : Nat) (ok : Nat → Prop) (v : Value) (xs : List Int) (w : World) (hr : Kd.R (Kd.int .i64) 3 w base ok v xs) (hlen : xs.length < 1000000) :
    Calls Try.prog 79 #[v] w fun e w' => ∃ v' : Value, e = .returned v' ∧ Kd.R (Kd.int .i64) 3 w' w.heap.size (fun _ => True) v' xs ∧ Below w.heap.size w w' := by
  rcases (Kd.own_of_R hr).2 with ⟨rfl, hn⟩ | ⟨g, cap, cur, rfl, _⟩
  · obtain rfl : xs = [] := List.eq_nil_of_length_eq_zero hn
    refine (clone3_nil w).mono ?_
    rintro e w' ⟨rfl, rfl⟩
    exact ⟨_, rfl, Kd.R_nil _ _ _ _ _, Below.refl _ _⟩
  · exact clone3 _ _ _ _ (Kd.R_reads' hr).2.2 hlen
/-- the search's memory -/
structure FS (w0 : World) (jb mb g1 g2 g3 g4 : Nat) (A0 : Option Addr) (c0 : Nat) (lots : List S46) (A1 : Option Addr) (c1 : Nat) (samples : List Int) (spread : Int) (A3 : Option Addr) (c3 : Nat) (labs : List S75) (vo : Value) (outs : List (List Int)) (ok : Nat → Prop) (W : World) : Prop where
  jw : JW w0 jb mb A0 c0 lots A1 c1 samples spread A3 c3 labs W
  b1 : W.heap[g1]? = some (.cells #[.pointer (some ⟨jb, 0, none⟩)] 83 (0, 0))
  b2 : W.heap[g2]? = some (.cells #[vo] 51 (0, 0))
  b3 : W.heap[g3]? = some (.cells #[.func (.func 52) #[.pointer (some ⟨jb, 0, none⟩)] #[]] 88 (0, 0))
  b4 : W.heap[g4]? = some (.cells #[.func (.func 78) #[] #[.pointer (some ⟨g3, 0, none⟩), .pointer (some ⟨g2, 0, none⟩), .pointer (some ⟨g1, 0, none⟩), .pointer (some ⟨g4, 0, none⟩)]] 114 (0, 0))
  out : Kd.R kll 23 W w0.heap.size ok vo outs
  l2 : w0.heap.size ≤ g2
theorem FS.below {w0 : World} {jb mb g1 g2 g3 g4 : Nat} {A0 : Option Addr} {c0 : Nat} {lots : List S46} {A1 : Option Addr} {c1 : Nat} {samples : List Int} {spread : Int} {A3 : Option Addr} {c3 : Nat} {labs : List S75} {vo : Value} {outs : List (List Int)} {ok : Nat → Prop} {W W' : World} (h : FS w0 jb mb g1 g2 g3 g4 A0 c0 lots A1 c1 samples spread A3 c3 labs vo outs ok W) (hb : Below W.heap.size W W') : FS w0 jb mb g1 g2 g3 g4 A0 c0 lots A1 c1 samples spread A3 c3 labs vo outs ok W' :=
  ⟨h.jw.step hb, blk_below h.b1 hb, blk_below h.b2 hb, blk_below h.b3 hb, blk_below h.b4 hb, Kd.R_below h.out hb, h.l2⟩
theorem ne_map {W : World} {g mb : Nat} {cs : Array Value} {t : TypeId} {fr : Nat × Nat} {es : Array MapEntry} {c : Nat} (h : W.heap[g]? = some (.cells cs t fr)) (hm : W.heap[mb]? = some (.map es c)) : g ≠ mb := by
  rintro rfl
  rw [h] at hm
  cases hm
theorem FS.kb {w0 : World} {jb mb g1 g2 g3 g4 : Nat} {A0 : Option Addr} {c0 : Nat} {lots : List S46} {A1 : Option Addr} {c1 : Nat} {samples : List Int} {spread : Int} {A3 : Option Addr} {c3 : Nat} {labs : List S75} {vo : Value} {outs : List (List Int)} {ok : Nat → Prop} {W W' : World} (h : FS w0 jb mb g1 g2 g3 g4 A0 c0 lots A1 c1 samples spread A3 c3 labs vo outs ok W) (hj : JW w0 jb mb A0 c0 lots A1 c1 samples spread A3 c3 labs W') (hk : Kb W.heap.size mb W W') : FS w0 jb mb g1 g2 g3 g4 A0 c0 lots A1 c1 samples spread A3 c3 labs vo outs ok W' := by
  obtain ⟨es, c, hm, _⟩ := h.jw.map
  exact ⟨hj, (hk.block _ (blk_lt h.b1) (ne_map h.b1 hm)).trans h.b1, (hk.block _ (blk_lt h.b2) (ne_map h.b2 hm)).trans h.b2, (hk.block _ (blk_lt h.b3) (ne_map h.b3 hm)).trans h.b3, (hk.block _ (blk_lt h.b4) (ne_map h.b4 hm)).trans h.b4, R_kb h.out hk rfl hm, h.l2⟩
/-- what a call may write: the map, the list of lists (its place and its row), the row of the list that it was handed -/
structure Frame (mb g2 : Nat) (vo vl : Value) (W W' : World) : Prop where
  size : W.heap.size ≤ W'.heap.size
  block : ∀ k, k < W.heap.size → k ≠ mb → k ≠ g2 → some k ≠ vo.ownBlock → some k ≠ vl.ownBlock → W'.heap[k]? = W.heap[k]?
theorem Frame.of_kb {mb g2 n : Nat} {vo vl : Value} {W W' : World} (h : Kb n mb W W') (hn : n = W.heap.size) : Frame mb g2 vo vl W W' := ⟨h.size, fun k hk hm _ _ _ => h.block k (hn ▸ hk) hm⟩
theorem Frame.of_below {mb g2 : Nat} {vo vl : Value} {W W' : World} (h : Below W.heap.size W W') : Frame mb g2 vo vl W W' := ⟨h.size, fun k hk _ _ _ _ => h.block k hk⟩
def Same (W : World) (v v' : Value) : Prop := v'.ownBlock = v.ownBlock ∨ ∃ q, v'.ownBlock = some q ∧ W.heap.size ≤ q
theorem Same.refl (W : World) (v : Value) : Same W v v := .inl rfl
theorem Same.trans {W W1 : World} {v v1 v2 : Value} (h : Same W v v1) (h' : Same W1 v1 v2) (hs : W.heap.size ≤ W1.heap.size) : Same W v v2 := by
  rcases h' with h' | ⟨q, h1, h2⟩
  · rcases h with h | ⟨q, h1, h2⟩
    · exact .inl (h'.trans h)
    · exact .inr ⟨q, h'.trans h1, h2⟩
  · exact .inr ⟨q, h1, by omega⟩
theorem Same.ne {W : World} {v v' : Value} {k : Nat} (h : Same W v v') (hk : k < W.heap.size) (hne : some k ≠ v.ownBlock) : some k ≠ v'.ownBlock := by
  rcases h with h | ⟨q, h1, h2⟩
  · rwa [h]
  · rw [h1]; intro e; injection e with e; omega
theorem Frame.trans {mb g2 : Nat} {vo vl vo1 vl1 : Value} {W W1 W2 : World} (h : Frame mb g2 vo vl W W1) (h' : Frame mb g2 vo1 vl1 W1 W2) (ho : Same W vo vo1) (hl : Same W vl vl1) : Frame mb g2 vo vl W W2 :=
  ⟨Nat.le_trans h.size h'.size, fun k hk h1 h2 h3 h4 => (h'.block k (Nat.lt_of_lt_of_le hk h.size) h1 h2 (ho.ne hk h3) (hl.ne hk h4)).trans (h.block k hk h1 h2 h3 h4)⟩
theorem JW.change {w0 : World} {jb mb : Nat} {A0 : Option Addr} {c0 : Nat} {lots : List S46} {A1 : Option Addr} {c1 : Nat} {samples : List Int} {spread : Int} {A3 : Option Addr} {c3 : Nat} {labs : List S75} {W W' : World} (h : JW w0 jb mb A0 c0 lots A1 c1 samples spread A3 c3 labs W) (hb : Below w0.heap.size w0 W') (hj : W'.heap[jb]? = W.heap[jb]?) (hm : W'.heap[mb]? = W.heap[mb]?) : JW w0 jb mb A0 c0 lots A1 c1 samples spread A3 c3 labs W' := by
  obtain ⟨es, c, h1, h2⟩ := h.map
  exact ⟨h.r0, h.r1, h.r3, hb, h.gj, h.gm, hj.trans h.blk, es, c, hm.trans h1, h2⟩
theorem ne_row {W : World} {t g : Nat} {base : Nat} {ok : Nat → Prop} {vo : Value} {outs : List (List Int)} {cs : Array Value} {fr : Nat × Nat} (h : Kd.R kll 23 W base ok vo outs) (hg : W.heap[g]? = some (.cells cs t fr)) (ht : t ≠ 23) : some g ≠ vo.ownBlock := by
  intro he
  obtain ⟨cells, hc⟩ := Kd.R_typed h g he.symm
  rw [hg] at hc
  injection hc with hc
  injection hc with _ hc
  exact ht hc
/-- a list more: its row written, then the place -/
theorem FS.grown {w0 : World} {jb mb g1 g2 g3 g4 : Nat} {A0 : Option Addr} {c0 : Nat} {lots : List S46} {A1 : Option Addr} {c1 : Nat} {samples : List Int} {spread : Int} {A3 : Option Addr} {c3 : Nat} {labs : List S75} {vo vo1 : Value} {outs outs1 : List (List Int)} {ok : Nat → Prop} {W W' : World} (h : FS w0 jb mb g1 g2 g3 g4 A0 c0 lots A1 c1 samples spread A3 c3 labs vo outs ok W) (hg : W.grownBy W' vo.ownBlock) (hb : Below w0.heap.size w0 W') (hr : Kd.R kll 23 W' w0.heap.size ok vo1 outs1) :
    W'.heap[g2]? = some (.cells #[vo] 51 (0, 0)) ∧ FS w0 jb mb g1 g2 g3 g4 A0 c0 lots A1 c1 samples spread A3 c3 labs vo1 outs1 ok (W'.setCell ⟨g2, 0, none⟩ vo1) := by
  obtain ⟨es, c, hm, _⟩ := h.jw.map
  have n1 : some g1 ≠ vo.ownBlock := ne_row h.out h.b1 (by decide)
  have n2 : some g2 ≠ vo.ownBlock := ne_row h.out h.b2 (by decide)
  have n3 : some g3 ≠ vo.ownBlock := ne_row h.out h.b3 (by decide)
  have n4 : some g4 ≠ vo.ownBlock := ne_row h.out h.b4 (by decide)
  have nj : some jb ≠ vo.ownBlock := ne_row h.out h.jw.blk (by decide)
  have nm : some mb ≠ vo.ownBlock := by
    intro he
    obtain ⟨cells, hc⟩ := Kd.R_typed h.out mb he.symm
    rw [hm] at hc
    cases hc
  have t1 := (hg.block _ (blk_lt h.b1) n1).trans h.b1
  have t2 := (hg.block _ (blk_lt h.b2) n2).trans h.b2
  have t3 := (hg.block _ (blk_lt h.b3) n3).trans h.b3
  have t4 := (hg.block _ (blk_lt h.b4) n4).trans h.b4
  have tj := hg.block _ (blk_lt h.jw.blk) nj
  have tm := hg.block _ (blk_lt hm) nm
  have d1 : g1 ≠ g2 := blk_ne t1 t2 (by decide)
  have d3 : g3 ≠ g2 := blk_ne t3 t2 (by decide)
  have d4 : g4 ≠ g2 := blk_ne t4 t2 (by decide)
  have dj : jb ≠ g2 := blk_ne (tj.trans h.jw.blk) t2 (by decide)
  have dm : mb ≠ g2 := fun e => by have := tm.trans hm; rw [e, t2] at this; cases this
  refine ⟨t2, (h.jw.change (below_set hb h.l2) ((Below.heap_setCell _ _ _ _ dj).trans tj) ((Below.heap_setCell _ _ _ _ dm).trans tm)), blk_far t1 d1 _, blk_put t2 0 vo1 rfl, blk_far t3 d3 _, blk_far t4 d4 _, R_cellT hr t2 (by decide), h.l2⟩
def FP (w0 : World) (jb mb g1 g2 g3 g4 : Nat) (A0 : Option Addr) (c0 : Nat) (lots : List S46) (A1 : Option Addr) (c1 : Nat) (samples : List Int) (spread : Int) (A3 : Option Addr) (c3 : Nat) (labs : List S75) (vl : Value) (l : List Int) (vo : Value) (outs res : List (List Int)) (ok : Nat → Prop) (W : World) (e : Ending) (W' : World) : Prop :=
  e = .returned (.tuple #[]) ∧ ∃ vo', FS w0 jb mb g1 g2 g3 g4 A0 c0 lots A1 c1 samples spread A3 c3 labs vo' (outs ++ res) ok W' ∧ Kd.R (Kd.int .i64) 3 W' w0.heap.size (fun _ => True) vl l ∧ Same W vo vo' ∧ Frame mb g2 vo vl W W'
def fromT.T3 : Bool × List (List Nat × List Nat) := (true, [([], []), ([], []), ([1], [1]), ([2], [2]), ([0, 3, 2], [0, 3]), ([4, 4, 0, 1, 2, 3, 4], [4])])
def fromT.B3 : List Nat := [0, 0, 2, 6, 15, 31]
theorem fromT.tab3 : rtab .any (opsOf Try.f78 3) = fromT.T3 := by kernel_rfl
theorem fromT.bits3 : waitsOk fromT.T3.2 fromT.B3 = true := by kernel_rfl
set_option maxHeartbeats 8000000 in
set_option maxRecDepth 100000 in
theorem from_zero (w0 : World) (jb mb g1 g2 g3 g4 : Nat) (A0 : Option Addr) (c0 : Nat) (lots : List S46) (A1 : Option Addr) (c1 : Nat) (samples : List Int) (spread : Int) (A3 : Option Addr) (c3 : Nat) (labs : List S75) (hok : RoundOk lots samples spread labs) (vl : Value) (l : List Int) (vo : Value) (outs : List (List Int)) (next : Nat) (W : World) (hl : l.length ≤ 6) (ho : outs.length + 1 ≤ 1000000)
    (ok : Nat → Prop) (hfr : ∀ k, W.heap.size ≤ k → ok k) (hs : FS w0 jb mb g1 g2 g3 g4 A0 c0 lots A1 c1 samples spread A3 c3 labs vo outs ok W) (hr : Kd.R (Kd.int .i64) 3 W w0.heap.size (fun _ => True) vl l) (res : List (List Int)) (hres : res = if canF lots samples spread labs (offOf l) = true then [l] else []) :
    Calls Try.prog 78 #[vl, .agg #[.bool (offOf l 0), .bool (offOf l 1), .bool (offOf l 2), .bool (offOf l 3), .bool (offOf l 4), .bool (offOf l 5)], .int .i64 next, .int .i64 0, .pointer (some ⟨g3, 0, none⟩), .pointer (some ⟨g2, 0, none⟩), .pointer (some ⟨g1, 0, none⟩), .pointer (some ⟨g4, 0, none⟩)] W (FP w0 jb mb g1 g2 g3 g4 A0 c0 lots A1 c1 samples spread A3 c3 labs vl l vo outs res ok W) := by
  have HFS := Aside0.mk (hs.below (below_alloc (Below.refl _ W) (.cells #[.bool (offOf l 0), .bool (offOf l 1), .bool (offOf l 2), .bool (offOf l 3), .bool (offOf l 4), .bool (offOf l 5)] 85)))
  have HL := Aside0.mk (Kd.R_below hr (below_alloc (Below.refl _ W) (.cells #[.bool (offOf l 0), .bool (offOf l 1), .bool (offOf l 2), .bool (offOf l 3), .bool (offOf l 4), .bool (offOf l 5)] 85)))
  have HF : Aside0 (Frame mb g2 vo vl W (W.alloc (.cells #[.bool (offOf l 0), .bool (offOf l 1), .bool (offOf l 2), .bool (offOf l 3), .bool (offOf l 4), .bool (offOf l 5)] 85))) := ⟨Frame.of_below (below_alloc (Below.refl _ _) _)⟩
  have HB9 := Aside0.mk (blk_new W (.cells #[.bool (offOf l 0), .bool (offOf l 1), .bool (offOf l 2), .bool (offOf l 3), .bool (offOf l 4), .bool (offOf l 5)] 85))
  have HFr := Aside0.mk hfr
  replace hok := Aside0.mk hok
  replace hres := Aside0.mk hres
  have e3 := (blk_cell HFS.out.b3 0).trans rfl
  clear hs hr hfr
  go_enter Try.func78, Try.ntmps78
  go_wp2_with (go_at_call 52; refine Aside0.out ?_)
  clear e3
  refine ⟨?_⟩
  generalize W.alloc (.cells #[.bool (offOf l 0), .bool (offOf l 1), .bool (offOf l 2), .bool (offOf l 3), .bool (offOf l 4), .bool (offOf l 5)] 85) = w1 at HFS HL HF HB9 ⊢
  refine (explain_any w0 jb mb A0 c0 lots A1 c1 samples spread A3 c3 labs (offOf l) w1 HFS.out.jw hok.out).mono ?_
  rintro e w2 ⟨rfl, hj2, hk2⟩
  obtain ⟨es, cc, hm, _⟩ := HFS.out.jw.map
  replace HL := Aside0.mk (R_kb HL.out hk2 rfl hm)
  replace HF := Aside0.mk (HF.out.trans (Frame.of_kb hk2 rfl) (Same.refl _ _) (Same.refl _ _))
  replace HFS := Aside0.mk (HFS.out.kb hj2 hk2)
  clear hj2 hk2 hm HB9
  cases hcan : canF lots samples spread labs (offOf l)
  · obtain rfl : res = [] := by rw [hres.out, hcan]; rfl
    clear hcan hres
    go_wp2
    (try simp only [Exit.inBlock, Exit.then])
    refine bodyPost_ret (results_none rfl _ _ _) rfl ?_
    exact ⟨rfl, vo, by rw [List.append_nil]; exact HFS.out, HL.out, Same.refl _ _, HF.out⟩
  · obtain rfl : res = [l] := by rw [hres.out, hcan]; rfl
    clear hcan hres
    go_wp2
    refine start_ (n := 6) (S := fun w' => w'.cell? ⟨g2, 0, none⟩ = some vo) (ds := [5]) #[false, false, false, false, false, false] (by kernel_rfl) rfl rfl ((blk_cell (blk_drew HFS.out.b2) 0).trans rfl) (fun hHeld => ?_)
    refine with_tabW fromT.tab3 fromT.bits3 (fun HT_ HW_ => ?_)
    replace HFS := Aside0.mk (HFS.out.below (below_drew1 (Below.refl _ _)))
    replace HL := Aside0.mk (Kd.R_below HL.out (below_drew1 (Below.refl _ _)))
    replace HF := Aside0.mk (HF.out.trans (Frame.of_below (below_drew1 (Below.refl _ _))) (Same.refl _ _) (Same.refl _ _))
    generalize w2.drew = w3 at HFS HL HF hHeld ⊢
    refine pure_ (i := 1) (N := some 20) (v := ?_) (a' := ?_) #[false, true, false, false, false, false] rfl rfl (any_of HT_.out (by kernel_rfl)) (fun _ _ _ h => h) (Or.inl ⟨by rfl, ?_⟩) ?_ ?_
    rotate_left
    · intro w'
      go_simp
      with_reducible rfl
    rotate_left
    · simp only [Act.put, List.setIfInBounds_toArray, List.set_cons_zero, List.set_cons_succ, i64_w, i32_w]
      rfl
    refine take_ (i := 0) (N := some 19) (v := ?_) (a' := ?_) #[true, true, false, false, false, false] rfl rfl (take_ofW HT_.out HW_.out (by kernel_rfl)) (fun _ _ _ h => h) (Or.inl ⟨by rfl, ?_⟩) hHeld ?_ ?_
    rotate_left
    · intro w' s0
      go_simp
      with_reducible rfl
    rotate_left
    · simp only [Act.put, List.setIfInBounds_toArray, List.set_cons_zero, List.set_cons_succ, i64_w, i32_w]
      rfl
    refine one_ (i := 2) (N := some 21) #[true, true, true, false, false, false] rfl rfl (one_of HT_.out (by kernel_rfl)) (by decide) (fun K hK => ?_)
    refine goes_ Try.func79 (by kernel_rfl) rfl #[vl] (by rfl) rfl rfl (by simp only [List.map_toArray, List.map_cons, List.map_nil]; rfl) ?_
    with_reducible refine (clone_any w0.heap.size (fun _ => True) vl l w3 HL.out (by omega)).mono ?_
    rintro e w4 ⟨vc, rfl, hvc, hb⟩
    obtain ⟨Ac, ccl, rfl⟩ := Kd.R_slice hvc
    refine ⟨_, rfl, ?_⟩
    have HLT : Aside0 (∀ k, w3.heap.size ≤ k → ok k) := ⟨fun k hk => HFr.out k (Nat.le_trans HF.out.size hk)⟩
    have HOT : Aside0 (∀ k, w3.heap.size ≤ k → some k ≠ vo.ownBlock) := ⟨fun k hk he => by have := Kd.R_lt HFS.out.out k he.symm; omega⟩
    have HS5 := Aside0.mk hb.size
    have HVC := Aside0.mk (Kd.R_lower (Kd.R_mono (Kd.R_bound hvc) (fun k hk => hk.2.1)) HFS.out.jw.hb.size)
    replace HL := Aside0.mk (Kd.R_below HL.out hb)
    replace HF := Aside0.mk (HF.out.trans (Frame.of_below hb) (Same.refl _ _) (Same.refl _ _))
    replace HFS := Aside0.mk (HFS.out.below hb)
    clear hvc hb
    refine hK.out _ _ (((blk_cell HFS.out.b2 0).trans rfl)) (fun hHeld => ?_)
    clear hK K
    refine norm_ (a' := ?_) ?_ ?_
    rotate_left
    · show Act.put _ (some 21) _ = _
      simp only [Act.put, List.setIfInBounds_toArray, List.set_cons_zero, List.set_cons_succ, i64_w, i32_w]
      rfl
    refine one_ (i := 3) (N := some 22) #[true, true, true, true, false, false] rfl rfl (one_of HT_.out (by kernel_rfl)) (by decide) (fun K hK => ?_)
    refine value_ (w1 := ?_) (v := ?_) (by rfl) rfl ?_ ?_
    rotate_left 2
    · go_simp
      constructor
      · rfl
      · rfl
    have HFS0 := Aside0.mk HFS.out
    replace HFS := Aside0.mk (HFS.out.below (below_alloc (Below.refl _ w4) (.cells #[.slice Ac l.length ccl] 23)))
    refine hK.out _ _ (((blk_cell HFS.out.b2 0).trans rfl)) (fun hHeld => ?_)
    clear hK K
    refine norm_ (a' := ?_) ?_ ?_
    rotate_left
    · show Act.put _ (some 22) _ = _
      simp only [Act.put, List.setIfInBounds_toArray, List.set_cons_zero, List.set_cons_succ, i64_w, i32_w]
      rfl
    refine one_ (i := 4) (N := some 23) #[true, true, true, true, true, false] rfl rfl (one_of HT_.out (by kernel_rfl)) (by decide) (fun K hK => ?_)
    have hbs := HFS0.out.jw.hb.size
    refine Kd.R_append_step kll (w0 := w0) w0.heap.size (by rfl) (.tmp 19) (.tmp 22) 51 23 (.slice none 0 0) 24 rfl Try.underlying51 info23c rfl (by decide) (by omega) vo outs l [.slice Ac l.length ccl] ok (fun k => w3.heap.size ≤ k) rfl (by go_simp) ⟨_, rfl, HVC.out⟩ (fun k hk => ⟨HLT.out k hk, HOT.out k hk⟩) (fun k hk => HLT.out k (by have := HS5.out; omega)) HFS0.out.out HFS0.out.jw.hb hbs (by omega) ?_
    intro vo1 w6 hR6 hB6 hG6 hat6
    obtain ⟨Av1, nv1, cv1, rfl⟩ : ∃ A n c, vo1 = .slice A n c := by obtain ⟨A, c, h⟩ := Kd.R_slice hR6; exact ⟨A, _, c, h⟩
    have HG6 := Aside0.mk (HFS0.out.grown hG6 hB6 hR6)
    have HS6 : Aside0 (Same W vo (.slice Av1 nv1 cv1)) := ⟨by rcases hat6 with h | ⟨b, h1, h2⟩; exact .inl h; exact .inr ⟨b, h1, Nat.le_trans HF.out.size (by simpa using h2)⟩⟩
    have HF6 : Aside0 (Frame mb g2 vo vl W w6) := ⟨HF.out.trans ⟨hG6.size, fun k hk _ _ h3 _ => hG6.block k hk h3⟩ (Same.refl _ _) (Same.refl _ _)⟩
    replace HL := Aside0.mk (Kd.R_over' HL.out (Kd.R_typed HFS0.out.out) (by decide) hG6)
    clear hR6 hB6 hG6 hat6 HFS HF
    have q2 := (blk_cell HG6.out.1 0).trans rfl
    have z2 := blk_frozen HG6.out.1 0
    refine hK.out _ _ (q2) (fun hHeld => ?_)
    clear hK K
    refine norm_ (a' := ?_) ?_ ?_
    rotate_left
    · show Act.put _ (some 23) _ = _
      simp only [Act.put, List.setIfInBounds_toArray, List.set_cons_zero, List.set_cons_succ, i64_w, i32_w]
      rfl
    refine last_ (i := 5) (N := none) #[true, true, true, true, true, true] rfl rfl (one_of HT_.out (by kernel_rfl)) (by decide) (fun K hK => ?_)
    refine skip_ (w1 := ?_) (by rfl) rfl ?_ ?_
    rotate_left
    · go_simp
      rfl
    refine hK.out _ _ ?_
    clear hK K
    refine done_ (done_of HT_.out (by kernel_rfl)) ?_

    clear hHeld
    have HFin : Aside0 (FP w0 jb mb g1 g2 g3 g4 A0 c0 lots A1 c1 samples spread A3 c3 labs vl l vo outs [l] ok W (.returned (.tuple #[])) (w6.setCell ⟨g2, 0, none⟩ (.slice Av1 nv1 cv1))) := ⟨rfl, .slice Av1 nv1 cv1, HG6.out.2, R_cellT HL.out HG6.out.1 (by decide), HS6.out, ⟨by have := HF6.out.size; simpa using this, fun k hk h1 h2 h3 h4 => (Below.heap_setCell _ _ _ _ h2).trans (HF6.out.block k hk h1 h2 h3 h4)⟩⟩
    clear q2 z2
    go_wp2
    (try simp only [Exit.inBlock, Exit.then])
    refine bodyPost_ret (results_none rfl _ _ _) rfl ?_
    exact HFin.out
end Go.Proofs.Ytcpbhklaffgokaa.Q
