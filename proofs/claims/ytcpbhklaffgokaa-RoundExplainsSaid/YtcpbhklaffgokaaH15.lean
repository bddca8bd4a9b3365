import Derived.Test.YtcpbhklaffgokaaH14
namespace Go.Proofs.Ytcpbhklaffgokaa.Q
open Go.RowKit Go.Proofs.YtcpbhklaffgokaaW.PrintWords Go.Proofs.YtcpbhklaffgokaaW.PrintLast Go.Proofs.YtcpbhklaffgokaaW.PrintMore
set_option linter.unusedVariables false
set_option linter.unusedSimpArgs false
section
variable {P : Program} {ops : Array Oper} {Q : Exit → Act → World → Prop}
/-- a call of a function value -/
theorem goesV_ {oi : Oper} {N : Option Tmp} {a : Act} {w : World} {K : Act → World → Prop} {f : FuncId} {fn : Func} {aa : Array Operand} {ts : Array TypeId} {t : Tmp} {fr : Array Value} (hf : P.funcs[f]? = some fn) (hname : (fn.name == "runtime.NumGoroutine") = false) (hb : fn.body.isSome = true) (args : Array Value)
    (hw : Region.wanted oi (yielded ops a.tmps) = true) (hN : oi.dst = N) (hop : oi.op = .call { callee := .value (.tmp t), args := aa, argTypes := ts }) (hv : a.eval (.tmp t) = .func (.func f) #[] fr) (hargs : aa.map a.eval ++ fr = args)
    (h : Calls P f args w fun e w' => ∃ v, e = .returned v ∧ K (a.put N v) w') : if Region.wanted oi (yielded ops a.tmps) = true then Oper.wp P oi a w K Q else K (a.put N undef) w := by
  refine call_ f args hw hN ?_ h
  have he := enters_ hf hname hb args w
  unfold execOp
  simp [hop, resolve, Deferred.ofValue, invoke, hv, hargs, he]
/-- an append whose answer is known -/
theorem appendR_ {o : Oper} {a : Act} {W w1 : World} {v1 : Value} {Kc : Act → World → Prop} (hw : Region.wanted o (yielded ops a.tmps) = true) (s x : Operand) (t : TypeId) (v u : Value) (ho : o.op = .call { callee := .builtin .append, args := #[s, x], argTypes := #[t, t] }) (hs : a.eval s = v) (hx : a.eval x = u)
    (hr : (Builtin.append_ #[t, t] o.type #[v, u]).run P W = .ok v1 w1) (h : Kc (a.put o.dst v1) w1) : if Region.wanted o (yielded ops a.tmps) = true then Oper.wp P o a W Kc Q else Kc (a.put o.dst undef) W := by
  rw [if_pos hw]
  unfold Oper.wp execOp
  simp only [ho, resolve, invoke, builtin, Sem.run_bind, Sem.run_pure, Result.andThen_ok, List.map_toArray, List.map_cons, List.map_nil, hs, hx, hr]
  exact h
end
theorem app3P {W : World} {base : Nat} {ok : Nat → Prop} {v : Value} {l : List Int} (h : (Kd.int .i64).R 3 W base ok v l) (ga c : Nat) (k : Int) (hk : W.cell? ⟨ga, 0, none⟩ = some (.int .i64 k)) (hl : l.length ≤ 1000) (hb : base ≤ W.heap.size) :
    ∃ v' W', (Builtin.append_ #[23, 23] 23 #[v, .slice (some ⟨ga, 0, none⟩) 1 c]).run Try.prog W = .ok v' W' ∧ (Kd.int .i64).R 3 W' base (fun _ => True) v' (l ++ [k]) ∧ (Kd.int .i64).R 3 W' base ok v l ∧ W.grownBy W' v.ownBlock ∧ ((∃ A c', v = .slice A l.length c' ∧ v' = .slice A (l.length + 1) c') ∨ v'.ownBlock = some W.heap.size) := by
  obtain ⟨i, hi, he⟩ := Option.map_eq_some_iff.1 info3
  injection he with h1 he
  injection he with h2 h3
  exact app3 Try.underlying23 hi h1 h2 h3 rfl h ga c k hk hl hb
/-- a block of flags is left alone -/
theorem FS.keep {w0 : World} {jb mb g1 g2 g3 g4 : Nat} {A0 : Option Addr} {c0 : Nat} {lots : List S46} {A1 : Option Addr} {c1 : Nat} {samples : List Int} {spread : Int} {A3 : Option Addr} {c3 : Nat} {labs : List S75} {vo vl : Value} {outs : List (List Int)} {l : List Int} {ok ok2 : Nat → Prop} {W W' : World} {base g : Nat} {cs : Array Value} (h : FS w0 jb mb g1 g2 g3 g4 A0 c0 lots A1 c1 samples spread A3 c3 labs vo outs ok W) (hr : Kd.R (Kd.int .i64) 3 W base ok2 vl l) (hf : Frame mb g2 vo vl W W') (hg : W.heap[g]? = some (.cells cs 85 (0, 0))) : W'.heap[g]? = some (.cells cs 85 (0, 0)) := by
  obtain ⟨es, c, hm, _⟩ := h.jw.map
  exact (hf.block g (blk_lt hg) (ne_map hg hm) (blk_ne hg h.b2 (by decide)) (Kd.R_ne h.out hg (by decide)) (Kd.R_ne hr hg (by decide))).trans hg
/-- 'append' onto the list: the search's memory stays -/
theorem FS.app {w0 : World} {jb mb g1 g2 g3 g4 : Nat} {A0 : Option Addr} {c0 : Nat} {lots : List S46} {A1 : Option Addr} {c1 : Nat} {samples : List Int} {spread : Int} {A3 : Option Addr} {c3 : Nat} {labs : List S75} {vo vl v1 : Value} {outs : List (List Int)} {l : List Int} {ok ok2 : Nat → Prop} {W W' : World} {k : Int} (h : FS w0 jb mb g1 g2 g3 g4 A0 c0 lots A1 c1 samples spread A3 c3 labs vo outs ok W) (hr : Kd.R (Kd.int .i64) 3 W w0.heap.size ok2 vl l) (hno : ∀ q, ok q → some q ≠ vl.ownBlock) (hg : W.grownBy W' vl.ownBlock)
    (hat : v1.ownBlock = vl.ownBlock ∨ v1.ownBlock = some W.heap.size) : FS w0 jb mb g1 g2 g3 g4 A0 c0 lots A1 c1 samples spread A3 c3 labs vo outs (fun q => ok q ∧ some q ≠ v1.ownBlock) W' := by
  obtain ⟨es, c, hm, _⟩ := h.jw.map
  have nm : some mb ≠ vl.ownBlock := by
    intro he
    obtain ⟨cells, hc⟩ := Kd.R_typed hr mb he.symm
    rw [hm] at hc
    cases hc
  refine ⟨h.jw.change (Below.grown h.jw.hb hg h.jw.hb.size (Kd.R_base hr)) (hg.block _ (blk_lt h.jw.blk) (Kd.R_ne hr h.jw.blk (by decide))) (hg.block _ (blk_lt hm) nm), (hg.block _ (blk_lt h.b1) (Kd.R_ne hr h.b1 (by decide))).trans h.b1, (hg.block _ (blk_lt h.b2) (Kd.R_ne hr h.b2 (by decide))).trans h.b2, (hg.block _ (blk_lt h.b3) (Kd.R_ne hr h.b3 (by decide))).trans h.b3, (hg.block _ (blk_lt h.b4) (Kd.R_ne hr h.b4 (by decide))).trans h.b4, ?_, h.l2⟩
  refine Kd.R_mono (Kd.R_grown (Kd.R_bound h.out) hg (fun q hq => hno q hq.1)) (fun q hq => ⟨hq.1, ?_⟩)
  rcases hat with e | e
  · rw [e]; exact hno q hq.1
  · rw [e]; intro e2; injection e2 with e2; have := hq.2.2.1; omega
theorem FS.mono {w0 : World} {jb mb g1 g2 g3 g4 : Nat} {A0 : Option Addr} {c0 : Nat} {lots : List S46} {A1 : Option Addr} {c1 : Nat} {samples : List Int} {spread : Int} {A3 : Option Addr} {c3 : Nat} {labs : List S75} {vo : Value} {outs : List (List Int)} {ok ok' : Nat → Prop} {W : World} (h : FS w0 jb mb g1 g2 g3 g4 A0 c0 lots A1 c1 samples spread A3 c3 labs vo outs ok W) (hk : ∀ q, ok q → ok' q) : FS w0 jb mb g1 g2 g3 g4 A0 c0 lots A1 c1 samples spread A3 c3 labs vo outs ok' W := ⟨h.jw, h.b1, h.b2, h.b3, h.b4, Kd.R_mono h.out hk, h.l2⟩
/-- behind the call the list is as it was -/
theorem FS.list {w0 : World} {jb mb g1 g2 g3 g4 : Nat} {A0 : Option Addr} {c0 : Nat} {lots : List S46} {A1 : Option Addr} {c1 : Nat} {samples : List Int} {spread : Int} {A3 : Option Addr} {c3 : Nat} {labs : List S75} {vo vl v1 : Value} {outs : List (List Int)} {l : List Int} {ok : Nat → Prop} {W W1 W' : World} {k : Int} (h : FS w0 jb mb g1 g2 g3 g4 A0 c0 lots A1 c1 samples spread A3 c3 labs vo outs ok W1) (hr : Kd.R (Kd.int .i64) 3 W1 w0.heap.size (fun _ => True) vl l) (hf : Frame mb g2 vo v1 W1 W') (hr1 : Kd.R (Kd.int .i64) 3 W' w0.heap.size (fun _ => True) v1 (l ++ [k]))
    (hat : (∃ A c', vl = .slice A l.length c' ∧ v1 = .slice A (l.length + 1) c') ∨ (v1.ownBlock = some W.heap.size ∧ ∀ q, vl.ownBlock = some q → q < W.heap.size)) : Kd.R (Kd.int .i64) 3 W' w0.heap.size (fun _ => True) vl l := by
  obtain ⟨es, c, hm, _⟩ := h.jw.map
  rcases hat with ⟨A, c', rfl, rfl⟩ | ⟨e1, e2⟩
  · have ht := Kd.R_take hr1 (m := l.length) (by simp)
    rwa [List.take_left'] at ht
    rfl
  · refine Kd.R_of_own (own_move (Kd.own_of_R hr) (fun q hq => ?_)) (fun _ _ => trivial)
    obtain ⟨cells, hc⟩ := Kd.R_typed hr q hq
    exact hf.block q (blk_lt hc) (ne_map hc hm) (blk_ne hc h.b2 (by decide)) (Kd.R_ne h.out hc (by decide)) (by rw [e1]; intro e3; injection e3 with e3; have := e2 q hq; omega)
def fromN.T9 : Bool × List (List Nat × List Nat) := (true, [([], []), ([], []), ([], []), ([2], [2]), ([1, 3], [1, 3]), ([], []), ([], []), ([6], [6]), ([], []), ([8], [8]), ([0, 4, 5, 7, 9, 4], [0, 4, 5, 7, 9])])
def fromN.B9 : List Nat := [0, 0, 0, 4, 14, 0, 0, 64, 0, 256, 1023]
theorem fromN.tab9 : rtab .any (opsOf Try.f78 9) = fromN.T9 := by kernel_rfl
theorem fromN.bits9 : waitsOk fromN.T9.2 fromN.B9 = true := by kernel_rfl
def FromOk (w0 : World) (jb mb g1 g2 g3 g4 : Nat) (A0 : Option Addr) (c0 : Nat) (lots : List S46) (A1 : Option Addr) (c1 : Nat) (samples : List Int) (spread : Int) (A3 : Option Addr) (c3 : Nat) (labs : List S75) (m : Nat) : Prop := ∀ (vl : Value) (l : List Int) (vo : Value) (outs : List (List Int)) (ni mi : Int) (next : Nat) (W : World) (ok : Nat → Prop), mi = m → ni = next → next ≤ labs.length → l.length + m ≤ 6 → outs.length + 6 ^ m ≤ 1000000 →
  (∀ k, W.heap.size ≤ k → ok k) → (∀ k, ok k → some k ≠ vl.ownBlock) → FS w0 jb mb g1 g2 g3 g4 A0 c0 lots A1 c1 samples spread A3 c3 labs vo outs ok W → Kd.R (Kd.int .i64) 3 W w0.heap.size (fun _ => True) vl l →
  Calls Try.prog 78 #[vl, .agg #[.bool (offOf l 0), .bool (offOf l 1), .bool (offOf l 2), .bool (offOf l 3), .bool (offOf l 4), .bool (offOf l 5)], .int .i64 ni, .int .i64 mi, .pointer (some ⟨g3, 0, none⟩), .pointer (some ⟨g2, 0, none⟩), .pointer (some ⟨g1, 0, none⟩), .pointer (some ⟨g4, 0, none⟩)] W (FP w0 jb mb g1 g2 g3 g4 A0 c0 lots A1 c1 samples spread A3 c3 labs vl l vo outs (fromF (fun l => canF lots samples spread labs (offOf l)) labs.length m l next) ok W)
set_option maxHeartbeats 8000000 in
set_option maxRecDepth 100000 in
theorem from_succ (w0 : World) (jb mb g1 g2 g3 g4 : Nat) (A0 : Option Addr) (c0 : Nat) (lots : List S46) (A1 : Option Addr) (c1 : Nat) (samples : List Int) (spread : Int) (A3 : Option Addr) (c3 : Nat) (labs : List S75) (hok : RoundOk lots samples spread labs) (m : Nat) (ih : FromOk w0 jb mb g1 g2 g3 g4 A0 c0 lots A1 c1 samples spread A3 c3 labs m) : FromOk w0 jb mb g1 g2 g3 g4 A0 c0 lots A1 c1 samples spread A3 c3 labs (m + 1) := by
  intro vl l vo outs ni mi next W ok hmi hni hn hlm ho hfr hno hs hr
  have b6 := hok.b6
  have hP : 6 ^ m ≤ 46656 := by have : (6 : Nat) ^ m ≤ 6 ^ 6 := Nat.pow_le_pow_right (by omega) (by omega); omega
  have hP1 : (6 : Nat) ^ (m + 1) = 6 * 6 ^ m := by rw [Nat.pow_succ, Nat.mul_comm]
  rw [hP1] at ho
  clear hP1
  generalize hpw : (6 : Nat) ^ m = pw at ho hP
  have HPw := Aside0.mk hpw
  clear hpw
  have HMi := Aside0.mk hmi
  have HNi := Aside0.mk hni
  have hne : (mi == 0) = false := by rw [beq_eq_false_iff_ne]; omega
  have hm0 : 0 < mi := by omega
  have hm6 : mi ≤ 6 := by omega
  have hn0 : 0 ≤ ni := by omega
  have hn6 : ni ≤ labs.length := by omega
  clear hmi hni
  have HIH := Aside0.mk ih
  have HFr := Aside0.mk hfr
  have HNo := Aside0.mk hno
  have HFS := Aside0.mk (hs.below (below_alloc (Below.refl _ W) (.cells #[.bool (offOf l 0), .bool (offOf l 1), .bool (offOf l 2), .bool (offOf l 3), .bool (offOf l 4), .bool (offOf l 5)] 85)))
  have HL := Aside0.mk (Kd.R_below hr (below_alloc (Below.refl _ W) (.cells #[.bool (offOf l 0), .bool (offOf l 1), .bool (offOf l 2), .bool (offOf l 3), .bool (offOf l 4), .bool (offOf l 5)] 85)))
  have HF : Aside0 (Frame mb g2 vo vl W (W.alloc (.cells #[.bool (offOf l 0), .bool (offOf l 1), .bool (offOf l 2), .bool (offOf l 3), .bool (offOf l 4), .bool (offOf l 5)] 85))) := ⟨Frame.of_below (below_alloc (Below.refl _ _) _)⟩
  have B9 := Aside0.mk (blk_new W (.cells #[.bool (offOf l 0), .bool (offOf l 1), .bool (offOf l 2), .bool (offOf l 3), .bool (offOf l 4), .bool (offOf l 5)] 85))
  replace hok := Aside0.mk hok
  clear hs hr hfr hno ih
  go_enter Try.func78, Try.ntmps78
  go_wp2_with fail
  generalize W.alloc (.cells #[.bool (offOf l 0), .bool (offOf l 1), .bool (offOf l 2), .bool (offOf l 3), .bool (offOf l 4), .bool (offOf l 5)] 85) = w1 at HFS HL HF B9 ⊢
  have HW := Aside0.mk (Nat.le_refl W.heap.size)
  generalize hg9 : W.heap.size = g9 at B9 ⊢
  replace hg9 := Aside0.mk hg9
  go_loopw [12] (fun q wr => ∃ (k : Int) (vk : Value) (os : List (List Int)), ni ≤ k ∧ k ≤ labs.length ∧ q = .int .i64 k ∧ Aside0 (os = outs ++ fromK (fun l => canF lots samples spread labs (offOf l)) labs.length m l next k.toNat) ∧ Aside0 (FS w0 jb mb g1 g2 g3 g4 A0 c0 lots A1 c1 samples spread A3 c3 labs vk os ok wr) ∧ Aside0 (Kd.R (Kd.int .i64) 3 wr w0.heap.size (fun _ => True) vl l) ∧ Aside0 (Same W vo vk) ∧ Aside0 (Frame mb g2 vo vl W wr) ∧ Aside0 (wr.heap[g9]? = some (.cells #[.bool (offOf l 0), .bool (offOf l 1), .bool (offOf l 2), .bool (offOf l 3), .bool (offOf l 4), .bool (offOf l 5)] 85 (0, 0)))) (fun q _ => labs.length - (intOf q).toNat)
  case atStart => exact ⟨ni, vo, outs, by omega, by omega, rfl, ⟨by rw [HNi.out, Int.toNat_natCast, fromK_start, List.append_nil]⟩, HFS, HL, ⟨Same.refl _ _⟩, HF, B9⟩
  case round =>
    obtain ⟨k, vk, os, hk0, hk1, rfl, HO, HFS, HL, HS, HF, B9⟩ := hrel
    have e1 := (blk_cell HFS.out.b1 0).trans rfl
    have e2 := HFS.out.jw.at.cells.2.2.2.1
    by_cases hlt : k < labs.length
    · obtain ⟨q0, q1, q2, q3, q4, q5⟩ := cells6 B9.out
      have hset := push_set l k.toNat (by omega)
      rw [Int.toNat_of_nonneg (by omega)] at hset
      have k13 : (wr.alloc (.cells #[.bool (offOf l 0), .bool (offOf l 1), .bool (offOf l 2), .bool (offOf l 3), .bool (offOf l 4), .bool (offOf l 5)] 85)).cell? ⟨wr.heap.size, k.toNat, none⟩ = some (.bool (offOf l k.toNat)) := (blk_cell (blk_new wr _) k.toNat).trans (off_at (offOf l) k.toNat (by omega))
      have z13 : (wr.alloc (.cells #[.bool (offOf l 0), .bool (offOf l 1), .bool (offOf l 2), .bool (offOf l 3), .bool (offOf l 4), .bool (offOf l 5)] 85)).frozen? ⟨wr.heap.size, k.toNat, none⟩ = false := blk_frozen (blk_new wr _) k.toNat
      have HSz := Aside0.mk (Nat.le_refl wr.heap.size)
      have B13 := Aside0.mk (blk_new wr (.cells #[.bool (offOf (l ++ [k]) 0), .bool (offOf (l ++ [k]) 1), .bool (offOf (l ++ [k]) 2), .bool (offOf (l ++ [k]) 3), .bool (offOf (l ++ [k]) 4), .bool (offOf (l ++ [k]) 5)] 85))
      have B9n := Aside0.mk (blk_alloc B9.out (.cells #[.bool (offOf (l ++ [k]) 0), .bool (offOf (l ++ [k]) 1), .bool (offOf (l ++ [k]) 2), .bool (offOf (l ++ [k]) 3), .bool (offOf (l ++ [k]) 4), .bool (offOf (l ++ [k]) 5)] 85))
      have HLn := Aside0.mk (Kd.R_below HL.out (below_alloc (Below.refl _ wr) (.cells #[.bool (offOf (l ++ [k]) 0), .bool (offOf (l ++ [k]) 1), .bool (offOf (l ++ [k]) 2), .bool (offOf (l ++ [k]) 3), .bool (offOf (l ++ [k]) 4), .bool (offOf (l ++ [k]) 5)] 85)))
      have HFn := Aside0.mk (HF.out.trans (Frame.of_below (below_alloc (Below.refl _ wr) (.cells #[.bool (offOf (l ++ [k]) 0), .bool (offOf (l ++ [k]) 1), .bool (offOf (l ++ [k]) 2), .bool (offOf (l ++ [k]) 3), .bool (offOf (l ++ [k]) 4), .bool (offOf (l ++ [k]) 5)] 85))) HS.out (Same.refl _ _))
      have HFSn := Aside0.mk (HFS.out.below (below_alloc (Below.refl _ wr) (.cells #[.bool (offOf (l ++ [k]) 0), .bool (offOf (l ++ [k]) 1), .bool (offOf (l ++ [k]) 2), .bool (offOf (l ++ [k]) 3), .bool (offOf (l ++ [k]) 4), .bool (offOf (l ++ [k]) 5)] 85)))
      have hwk : wrap64 (k + 1) = k + 1 := by unfold wrap64; omega
      have hwm : wrap64 (mi - 1) = mi - 1 := by unfold wrap64; omega
      have HLen : Aside0 (os.length + pw ≤ 1000000) := ⟨by
        have h1 := fromK_length (fun l => canF lots samples spread labs (offOf l)) labs.length m b6 l next k.toNat
        rw [HPw.out] at h1
        have h2 : (k.toNat - next) * pw ≤ 5 * pw := Nat.mul_le_mul_right _ (by have := HNi.out; omega)
        rw [HO.out, List.length_append]
        omega⟩
      go_wp2
      clear hset k13 z13 q0 q1 q2 q3 q4 q5 e1 e2 HFS HL HF B9
      generalize hg13 : wr.heap.size = g13 at B13 ⊢
      replace hg13 := Aside0.mk hg13
      generalize wr.alloc (.cells #[.bool (offOf (l ++ [k]) 0), .bool (offOf (l ++ [k]) 1), .bool (offOf (l ++ [k]) 2), .bool (offOf (l ++ [k]) 3), .bool (offOf (l ++ [k]) 4), .bool (offOf (l ++ [k]) 5)] 85) = w2 at B13 B9n HLn HFn HFSn ⊢
      have HFS := HFSn
      have HL := HLn
      have HF := HFn
      have B9 := B9n
      clear HFSn HLn HFn B9n
      refine start_ (n := 11) (S := fun w' => w'.cell? ⟨g4, 0, none⟩ = some (.func (.func 78) #[] #[.pointer (some ⟨g3, 0, none⟩), .pointer (some ⟨g2, 0, none⟩), .pointer (some ⟨g1, 0, none⟩), .pointer (some ⟨g4, 0, none⟩)]) ∧ w'.cell? ⟨g13, 0, none⟩ = some (.bool (offOf (l ++ [k]) 0)) ∧ w'.cell? ⟨g13, 1, none⟩ = some (.bool (offOf (l ++ [k]) 1)) ∧ w'.cell? ⟨g13, 2, none⟩ = some (.bool (offOf (l ++ [k]) 2)) ∧ w'.cell? ⟨g13, 3, none⟩ = some (.bool (offOf (l ++ [k]) 3)) ∧ w'.cell? ⟨g13, 4, none⟩ = some (.bool (offOf (l ++ [k]) 4)) ∧ w'.cell? ⟨g13, 5, none⟩ = some (.bool (offOf (l ++ [k]) 5))) (ds := []) #[false, false, false, false, false, false, false, false, false, false, false] (by kernel_rfl) rfl rfl ⟨((blk_cell (blk_drew HFS.out.b4) 0).trans rfl), (cells6 (blk_drew B13.out)).1, (cells6 (blk_drew B13.out)).2.1, (cells6 (blk_drew B13.out)).2.2.1, (cells6 (blk_drew B13.out)).2.2.2.1, (cells6 (blk_drew B13.out)).2.2.2.2.1, (cells6 (blk_drew B13.out)).2.2.2.2.2⟩ (fun hHeld => ?_)
      refine with_tabW fromN.tab9 fromN.bits9 (fun HT_ HW_ => ?_)
      replace HFS := Aside0.mk (HFS.out.below (below_drew1 (Below.refl _ _)))
      replace HL := Aside0.mk (Kd.R_below HL.out (below_drew1 (Below.refl _ _)))
      replace HF := Aside0.mk (HF.out.trans (Frame.of_below (below_drew1 (Below.refl _ _))) (Same.refl _ _) (Same.refl _ _))
      replace B13 := Aside0.mk (blk_drew B13.out)
      replace B9 := Aside0.mk (blk_drew B9.out)
      generalize w2.drew = w3 at HFS HL HF B13 B9 hHeld ⊢
      refine pure_ (i := 1) (N := some 39) (v := ?_) (a' := ?_) #[false, true, false, false, false, false, false, false, false, false, false] rfl rfl (any_of HT_.out (by kernel_rfl)) (fun _ _ _ h => h) (Or.inl ⟨by rfl, ?_⟩) ?_ ?_
      rotate_left
      · intro w'
        go_simp
        with_reducible rfl
      rotate_left
      · simp only [Act.put, List.setIfInBounds_toArray, List.set_cons_zero, List.set_cons_succ, i64_w, i32_w]
        rfl
      refine pure_ (i := 2) (N := some 40) (v := ?_) (a' := ?_) #[false, true, true, false, false, false, false, false, false, false, false] rfl rfl (any_of HT_.out (by kernel_rfl)) (fun _ _ _ h => h) (Or.inl ⟨by rfl, ?_⟩) ?_ ?_
      rotate_left
      · intro w'
        go_simp
        with_reducible rfl
      rotate_left
      · simp only [Act.put, List.setIfInBounds_toArray, List.set_cons_zero, List.set_cons_succ, i64_w, i32_w]
        rfl
      refine pure_ (i := 6) (N := some 44) (v := ?_) (a' := ?_) #[false, true, true, false, false, false, true, false, false, false, false] rfl rfl (any_of HT_.out (by kernel_rfl)) (fun _ _ _ h => h) (Or.inl ⟨by rfl, ?_⟩) ?_ ?_
      rotate_left
      · intro w'
        go_simp
        with_reducible rfl
      rotate_left
      · simp only [Act.put, List.setIfInBounds_toArray, List.set_cons_zero, List.set_cons_succ, i64_w, i32_w]
        rfl
      refine pure_ (i := 7) (N := some 45) (v := ?_) (a' := ?_) #[false, true, true, false, false, false, true, true, false, false, false] rfl rfl (any_of HT_.out (by kernel_rfl)) (fun _ _ _ h => h) (Or.inl ⟨by rfl, ?_⟩) ?_ ?_
      rotate_left
      · intro w'
        go_simp
        with_reducible rfl
      rotate_left
      · simp only [Act.put, List.setIfInBounds_toArray, List.set_cons_zero, List.set_cons_succ, i64_w, i32_w]
        rfl
      refine pure_ (i := 8) (N := some 46) (v := ?_) (a' := ?_) #[false, true, true, false, false, false, true, true, true, false, false] rfl rfl (any_of HT_.out (by kernel_rfl)) (fun _ _ _ h => h) (Or.inl ⟨by rfl, ?_⟩) ?_ ?_
      rotate_left
      · intro w'
        go_simp
        with_reducible rfl
      rotate_left
      · simp only [Act.put, List.setIfInBounds_toArray, List.set_cons_zero, List.set_cons_succ, i64_w, i32_w]
        rfl
      refine pure_ (i := 9) (N := some 47) (v := ?_) (a' := ?_) #[false, true, true, false, false, false, true, true, true, true, false] rfl rfl (any_of HT_.out (by kernel_rfl)) (fun _ _ _ h => h) (Or.inl ⟨by rfl, ?_⟩) ?_ ?_
      rotate_left
      · intro w'
        go_simp
        with_reducible rfl
      rotate_left
      · simp only [Act.put, List.setIfInBounds_toArray, List.set_cons_zero, List.set_cons_succ, i64_w, i32_w]
        rfl
      refine take_ (i := 0) (N := some 38) (v := ?_) (a' := ?_) #[true, true, true, false, false, false, true, true, true, true, false] rfl rfl (take_ofW HT_.out HW_.out (by kernel_rfl)) (fun _ _ _ h => h) (Or.inl ⟨by rfl, ?_⟩) hHeld ?_ ?_
      rotate_left
      · rintro w' ⟨s0, s1, s2, s3, s4, s5, s6⟩
        go_simp
        with_reducible rfl
      rotate_left
      · simp only [Act.put, List.setIfInBounds_toArray, List.set_cons_zero, List.set_cons_succ, i64_w, i32_w]
        rfl
      refine take_ (i := 5) (N := some 43) (v := ?_) (a' := ?_) #[true, true, true, false, false, true, true, true, true, true, false] rfl rfl (take_ofW HT_.out HW_.out (by kernel_rfl)) (fun _ _ _ h => h) (Or.inl ⟨by rfl, ?_⟩) hHeld ?_ ?_
      rotate_left
      · rintro w' ⟨s0, s1, s2, s3, s4, s5, s6⟩
        go_simp
        with_reducible rfl
      rotate_left
      · simp only [Act.put, List.setIfInBounds_toArray, List.set_cons_zero, List.set_cons_succ, i64_w, i32_w]
        rfl
      refine one_ (i := 3) (N := some 41) #[true, true, true, true, false, true, true, true, true, true, false] rfl rfl (one_of HT_.out (by kernel_rfl)) (by decide) (fun K hK => ?_)
      refine value_ (w1 := ?_) (v := ?_) (by rfl) rfl ?_ ?_
      rotate_left 2
      · go_simp
        constructor
        · rfl
        · rfl
      have hk3 : (w3.alloc (.cells #[.int .i64 k] 3)).cell? ⟨w3.heap.size, 0, none⟩ = some (.int .i64 k) := (blk_cell (blk_new w3 (.cells #[.int .i64 k] 3)) 0).trans rfl
      replace B13 := Aside0.mk (blk_alloc B13.out (.cells #[.int .i64 k] 3))
      replace B9 := Aside0.mk (blk_alloc B9.out (.cells #[.int .i64 k] 3))
      replace HL := Aside0.mk (Kd.R_below HL.out (below_alloc (Below.refl _ w3) (.cells #[.int .i64 k] 3)))
      replace HF := Aside0.mk (HF.out.trans (Frame.of_below (below_alloc (Below.refl _ w3) (.cells #[.int .i64 k] 3))) (Same.refl _ _) (Same.refl _ _))
      replace HFS := Aside0.mk (HFS.out.below (below_alloc (Below.refl _ w3) (.cells #[.int .i64 k] 3)))
      replace hk3 := Aside0.mk hk3
      generalize hg3 : w3.heap.size = q3 at hk3 ⊢
      generalize w3.alloc (.cells #[.int .i64 k] 3) = w4 at hk3 B13 B9 HL HF HFS ⊢
      refine hK.out _ _ ⟨((blk_cell HFS.out.b4 0).trans rfl), (cells6 B13.out).1, (cells6 B13.out).2.1, (cells6 B13.out).2.2.1, (cells6 B13.out).2.2.2.1, (cells6 B13.out).2.2.2.2.1, (cells6 B13.out).2.2.2.2.2⟩ (fun hHeld => ?_)
      clear hK K
      refine norm_ (a' := ?_) ?_ ?_
      rotate_left
      · show Act.put _ (some 41) _ = _
        simp only [Act.put, List.setIfInBounds_toArray, List.set_cons_zero, List.set_cons_succ, i64_w, i32_w]
        rfl
      refine one_ (i := 4) (N := some 42) #[true, true, true, true, true, true, true, true, true, true, false] rfl rfl (one_of HT_.out (by kernel_rfl)) (by decide) (fun K hK => ?_)
      have hbs := HFS.out.jw.hb.size
      obtain ⟨v5, w5, hap, hv5, hl5, hg5, hat5⟩ := app3P HL.out q3 1 k hk3.out (by omega) HFS.out.jw.hb.size
      obtain ⟨A5, n5, c5, rfl⟩ : ∃ A n c, v5 = .slice A n c := by obtain ⟨A, c, h⟩ := Kd.R_slice hv5; exact ⟨A, _, c, h⟩
      have HAT : Aside0 (((∃ A c', vl = .slice A l.length c' ∧ (.slice A5 n5 c5 : Value) = .slice A (l.length + 1) c') ∨ ((.slice A5 n5 c5 : Value).ownBlock = some w4.heap.size ∧ ∀ q, vl.ownBlock = some q → q < w4.heap.size))) := ⟨hat5.imp id (fun e => ⟨e, Kd.R_lt HL.out⟩)⟩
      have HAO : (.slice A5 n5 c5 : Value).ownBlock = vl.ownBlock ∨ (.slice A5 n5 c5 : Value).ownBlock = some w4.heap.size := by rcases hat5 with ⟨A, c', h1, h2⟩ | h; exact .inl (by rw [h1, h2]; cases A <;> rfl); exact .inr h
      have HSl : Aside0 (Same W vl (.slice A5 n5 c5)) := ⟨HAO.imp id (fun e => ⟨_, e, HF.out.size⟩)⟩
      have HFS5 := Aside0.mk (HFS.out.app (k := k) HL.out HNo.out hg5 HAO)
      have HL5 := Aside0.mk hl5
      have HV5 := Aside0.mk hv5
      have B13a := Aside0.mk ((hg5.block _ (blk_lt B13.out) (Kd.R_ne HL.out B13.out (by decide))).trans B13.out)
      have B9a := Aside0.mk ((hg5.block _ (blk_lt B9.out) (Kd.R_ne HL.out B9.out (by decide))).trans B9.out)
      have HF5 : Aside0 (Frame mb g2 vo vl W w5) := ⟨HF.out.trans ⟨hg5.size, fun q hq _ _ _ h4 => hg5.block q hq h4⟩ HS.out (Same.refl _ _)⟩
      clear hat5 hv5 hl5 hg5 HAO
      refine appendR_ (by rfl) (.tmp 39) (.tmp 41) 23 vl (.slice (some ⟨q3, 0, none⟩) 1 1) rfl (by go_simp) (by go_simp) hap ?_
      clear hap HFS HL HF B13 B9
      have HFS := HFS5
      have HL := HL5
      have HF := HF5
      have B13 := B13a
      have B9 := B9a
      clear HFS5 HL5 HF5 B13a B9a
      refine hK.out _ _ ⟨((blk_cell HFS.out.b4 0).trans rfl), (cells6 B13.out).1, (cells6 B13.out).2.1, (cells6 B13.out).2.2.1, (cells6 B13.out).2.2.2.1, (cells6 B13.out).2.2.2.2.1, (cells6 B13.out).2.2.2.2.2⟩ (fun hHeld => ?_)
      clear hK K
      refine norm_ (a' := ?_) ?_ ?_
      rotate_left
      · show Act.put _ (some 42) _ = _
        simp only [Act.put, List.setIfInBounds_toArray, List.set_cons_zero, List.set_cons_succ, i64_w, i32_w]
        rfl
      refine one_ (i := 10) (N := some 48) #[true, true, true, true, true, true, true, true, true, true, true] rfl rfl (one_of HT_.out (by kernel_rfl)) (by decide) (fun K hK => ?_)
      have hbs := HFS.out.jw.hb.size
      have HCh := Aside0.mk (HIH.out (.slice A5 n5 c5) (l ++ [k]) vk os (k + 1) (mi - 1) (k.toNat + 1) w5 (fun q => ok q ∧ some q ≠ (Value.slice A5 n5 c5).ownBlock) (by have := HMi.out; omega) (by omega) (by omega) (by simp; omega) (by rw [HPw.out]; exact HLen.out) (fun q hq => ⟨HFr.out q (Nat.le_trans HF.out.size hq), fun e => by have := Kd.R_lt HV5.out q e.symm; omega⟩) (fun q hq => hq.2) HFS.out HV5.out)
      refine goesV_ Try.func78 (by kernel_rfl) rfl #[.slice A5 n5 c5, .agg #[.bool (offOf (l ++ [k]) 0), .bool (offOf (l ++ [k]) 1), .bool (offOf (l ++ [k]) 2), .bool (offOf (l ++ [k]) 3), .bool (offOf (l ++ [k]) 4), .bool (offOf (l ++ [k]) 5)], .int .i64 (k + 1), .int .i64 (mi - 1), .pointer (some ⟨g3, 0, none⟩), .pointer (some ⟨g2, 0, none⟩), .pointer (some ⟨g1, 0, none⟩), .pointer (some ⟨g4, 0, none⟩)] (by rfl) rfl rfl (by rfl) (by go_simp) ?_
      with_reducible refine HCh.out.mono ?_
      rintro e w6 ⟨rfl, v6, hfs6, hv6, hs6, hf6⟩
      refine ⟨_, rfl, ?_⟩
      have HO6 : Aside0 (os ++ fromF (fun l => canF lots samples spread labs (offOf l)) labs.length m (l ++ [k]) (k.toNat + 1) = outs ++ fromK (fun l => canF lots samples spread labs (offOf l)) labs.length m l next (k + 1).toNat) := ⟨by rw [HO.out, show (k + 1).toNat = k.toNat + 1 by omega, fromK_step _ _ _ _ _ _ (by have := HNi.out; omega), Int.toNat_of_nonneg (by omega), List.append_assoc]⟩
      have HL6 := Aside0.mk (HFS.out.list HL.out hf6 hv6 HAT.out)
      have HS6 := Aside0.mk (HS.out.trans hs6 HF.out.size)
      have HF6 := Aside0.mk (HF.out.trans hf6 HS.out HSl.out)
      have B96 := Aside0.mk (HFS.out.keep HV5.out hf6 B9.out)
      replace B13 := Aside0.mk (HFS.out.keep HV5.out hf6 B13.out)
      have HFS6 := Aside0.mk (hfs6.mono (fun q hq => hq.1))
      clear HFS hfs6 hv6 hs6 hf6
      have HFS := HFS6
      clear HFS6
      refine hK.out _ _ ⟨((blk_cell HFS.out.b4 0).trans rfl), (cells6 B13.out).1, (cells6 B13.out).2.1, (cells6 B13.out).2.2.1, (cells6 B13.out).2.2.2.1, (cells6 B13.out).2.2.2.2.1, (cells6 B13.out).2.2.2.2.2⟩ (fun hHeld => ?_)
      clear hK K
      refine norm_ (a' := ?_) ?_ ?_
      rotate_left
      · show Act.put _ (some 48) _ = _
        simp only [Act.put, List.setIfInBounds_toArray, List.set_cons_zero, List.set_cons_succ, i64_w, i32_w]
        rfl
      refine done_ (done_of HT_.out (by kernel_rfl)) ?_

      clear hHeld
      go_wp2
      exact ⟨⟨k + 1, _, _, by omega, by omega, rfl, HO6, HFS, HL6, HS6, HF6, B96⟩, by simp only [intOf]; omega⟩
    · obtain rfl : k = labs.length := by omega
      have HFin : Aside0 (FP w0 jb mb g1 g2 g3 g4 A0 c0 lots A1 c1 samples spread A3 c3 labs vl l vo outs (fromF (fun l => canF lots samples spread labs (offOf l)) labs.length (m + 1) l next) ok W (.returned (.tuple #[])) wr) := ⟨rfl, vk, by have h := HO.out; rw [Int.toNat_natCast, fromK_end] at h; rw [← h]; exact HFS.out, HL.out, HS.out, HF.out⟩
      clear HO
      go_wp2
      (try simp only [Exit.inBlock, Exit.then])
      refine bodyPost_ret (results_none rfl _ _ _) rfl ?_
      exact HFin.out
theorem from_any (w0 : World) (jb mb g1 g2 g3 g4 : Nat) (A0 : Option Addr) (c0 : Nat) (lots : List S46) (A1 : Option Addr) (c1 : Nat) (samples : List Int) (spread : Int) (A3 : Option Addr) (c3 : Nat) (labs : List S75) (hok : RoundOk lots samples spread labs) : ∀ m, FromOk w0 jb mb g1 g2 g3 g4 A0 c0 lots A1 c1 samples spread A3 c3 labs m := by
  intro m
  induction m with
  | zero =>
    intro vl l vo outs ni mi next W ok hmi hni hn hlm ho hfr hno hs hr
    subst hmi
    subst hni
    exact from_zero _ _ _ _ _ _ _ _ _ _ _ _ _ _ _ _ _ hok vl l vo outs next W (by omega) (by simpa using ho) ok hfr hs hr _ rfl
  | succ m ih => exact from_succ _ _ _ _ _ _ _ _ _ _ _ _ _ _ _ _ _ hok m ih
end Go.Proofs.Ytcpbhklaffgokaa.Q
