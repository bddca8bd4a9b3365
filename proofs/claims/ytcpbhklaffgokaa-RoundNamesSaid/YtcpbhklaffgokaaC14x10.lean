import Derived.Test.YtcpbhklaffgokaaC14x9
namespace Go.Proofs.Ytcpbhklaffgokaa.Q
open Go.RowKit Go.Proofs.YtcpbhklaffgokaaW.PrintWords Go.Proofs.YtcpbhklaffgokaaW.PrintLast Go.Proofs.YtcpbhklaffgokaaW.PrintMore
set_option linter.unusedVariables false
set_option linter.unusedSimpArgs false
def intsB (l : List Int) : Obj := .cells (encs (Value.int .i64) l).toArray 3 (0, 0)
def labsB (g m : Nat) : Obj := .cells #[.int .i64 3, .slice (some ⟨g + 2, 0, none⟩) m 3, .int .i64 3, .slice (some ⟨g + 3, 0, none⟩) 3 3, .int .i64 2, .slice (some ⟨g + 4, 0, none⟩) 3 3, .int .i64 5, .slice (some ⟨g + 5, 0, none⟩) 3 3] 75 (0, 0)
structure TM (w : World) (g m : Nat) (R0 R1 R2 R3 : List Int) : Prop where
 lots : w.heap[g]? = some (.cells #[.int .i64 100, .int .i64 140, .int .i64 200, .int .i64 260] 46 (0, 0))
 smp : w.heap[g + 1]? = some (intsB [0, 0, 1])
 r0 : w.heap[g + 2]? = some (intsB R0)
 r1 : w.heap[g + 3]? = some (intsB R1)
 r2 : w.heap[g + 4]? = some (intsB R2)
 r3 : w.heap[g + 5]? = some (intsB R3)
 labs : w.heap[g + 6]? = some (labsB g m)
theorem TM.below {w w' : World} {g m : Nat} {R0 R1 R2 R3 : List Int} (h : TM w g m R0 R1 R2 R3) (hb : Below w.heap.size w w') : TM w' g m R0 R1 R2 R3 :=
 ⟨blk_below h.lots hb, blk_below h.smp hb, blk_below h.r0 hb, blk_below h.r1 hb, blk_below h.r2 hb, blk_below h.r3 hb, blk_below h.labs hb⟩
def TPost (w : World) (e : Ending) (w' : World) : Prop := ∃ g, e = .returned (.agg #[.slice (some ⟨g, 0, none⟩) 2 2, .slice (some ⟨g + 1, 0, none⟩) 3 3, .int .i64 2, .slice (some ⟨g + 6, 0, none⟩) 4 4]) ∧ TM w' g 3 [120, 122, 230] [124, 121, 234] [131, 133, 240] [-1, 118, 229] ∧ w.heap.size ≤ g ∧ Below w.heap.size w w'
set_option maxHeartbeats 4000000 in
set_option maxRecDepth 100000 in
theorem trial_at (w : World) : Calls Try.prog 40 #[] w (TPost w) := by
 go_enter Try.func40, Try.ntmps40
 go_wp2
 refine bodyPost_ret (results_single rfl (.cell w.heap.size 34 _ (0, 0) _ rfl (by repeat (first | exact blk_new' (by simp) | refine blk_alloc ?_ _)) rfl rfl rfl .nil)) rfl ?_
 refine ⟨w.heap.size + 1, rfl, ⟨?_, ?_, ?_, ?_, ?_, ?_, ?_⟩, by omega, ?_⟩
 ·exact (by repeat (first | exact blk_new' (by simp) | refine blk_alloc ?_ _))
 ·exact (by repeat (first | exact blk_new' (by simp) | refine blk_alloc ?_ _))
 ·exact (by repeat (first | exact blk_new' (by simp) | refine blk_alloc ?_ _))
 ·exact (by repeat (first | exact blk_new' (by simp) | refine blk_alloc ?_ _))
 ·exact (by repeat (first | exact blk_new' (by simp) | refine blk_alloc ?_ _))
 ·exact (by repeat (first | exact blk_new' (by simp) | refine blk_alloc ?_ _))
 ·exact (by repeat (first | exact blk_new' (by simp) | refine blk_alloc ?_ _))
 ·repeat (first | exact Below.refl _ _ | refine below_alloc ?_ _)
theorem C_75 {W : World} {g : Nat} {t : TypeId} {cs : Array Value} {xs : List S75} {rd_ : Nat → Nat} {cp : Nat → Nat} (hb : W.heap[g]? = some (.cells cs t (0, 0))) (hl : xs.length ≤ 1000)
  (hf : ∀ j p, xs[j]? = some p → p.f1.length ≤ cp j ∧ (Kd.int .i64).C W (some ⟨rd_ j, 0, none⟩) p.f1.length p.f1 ∧ cs[j * 2]? = some (.int .i64 p.f0) ∧ cs[j * 2 + 1]? = some (.slice (some ⟨rd_ j, 0, none⟩) p.f1.length (cp j))) : Kd.C k75 W (some ⟨g, 0, none⟩) xs.length xs := by
 refine C_blk hb hl (fun j => [.int .i64 (xs.getD j z75).f0, .slice (some ⟨rd_ j, 0, none⟩) (xs.getD j z75).f1.length (cp j)]) (fun j p hj => ?_)
 have hp : xs.getD j z75 = p := by rw [List.getD_eq_getElem?_getD, hj]; rfl
 obtain ⟨h1, h2, h3, h4⟩ := hf j p hj
 rw [hp]
 refine ⟨rfl, k75_mk _ _ h1 h2, fun i u hu => ?_⟩
 match i, hu with
 | 0, hu =>
  cases hu
  exact h3
 | 1, hu =>
  cases hu
  exact h4
theorem C_pre {W : World} {g : Nat} {t : TypeId} {xs ys : List Int} (hb : W.heap[g]? = some (.cells (encs (Value.int .i64) (xs ++ ys)).toArray t (0, 0))) (hl : xs.length ≤ 1000) : (Kd.int .i64).C W (some ⟨g, 0, none⟩) xs.length xs := by
 refine C_blk hb hl (fun j => [.int .i64 (xs.getD j 0)]) (fun j p hj => ?_)
 have hp : xs.getD j 0 = p := by rw [List.getD_eq_getElem?_getD, hj]; rfl
 rw [hp]
 refine ⟨rfl, rfl, fun i u hu => ?_⟩
 match i, hu with
 | 0, hu =>
  simp at hu
  subst hu
  have hlt := (List.getElem?_eq_some_iff.1 hj).1
  have h2 : (xs ++ ys)[j]? = some p := by rw [List.getElem?_append_left hlt]; exact hj
  show (encs (Value.int .i64) (xs ++ ys)).toArray[j * 1 + 0]? = _
  simp only [encs, Nat.mul_one, Nat.add_zero, List.getElem?_toArray, List.getElem?_map, h2]
  rfl
theorem TM.in34 {w : World} {g : Nat} {R0 R1 R2 R3 : List Int} (h : TM w g 3 R0 R1 R2 R3) (h0 : R0.length = 3) (h1 : R1.length = 3) (h2 : R2.length = 3) (h3 : R3.length = 3) :
  In34 w (.agg #[.slice (some ⟨g, 0, none⟩) 2 2, .slice (some ⟨g + 1, 0, none⟩) 3 3, .int .i64 2, .slice (some ⟨g + 6, 0, none⟩) 4 4]) trialLots trialSamples 2 [⟨3, R0⟩, ⟨3, R1⟩, ⟨2, R2⟩, ⟨5, R3⟩] := by
 refine ⟨_, _, _, _, _, _, rfl, C_46 (xs := trialLots) h.lots (by decide), C_ints (xs := trialSamples) h.smp (by decide), C_75 (xs := [⟨3, R0⟩, ⟨3, R1⟩, ⟨2, R2⟩, ⟨5, R3⟩]) (rd_ := fun j => g + 2 + j) (cp := fun _ => 3) h.labs (by simp) (fun j p hj => ?_)⟩
 match j, hj with
 | 0, hj =>
  cases hj
  exact ⟨by show R0.length ≤ 3; omega, C_ints h.r0 (by show R0.length ≤ 1000; omega), rfl, by show some _ = some (Value.slice _ R0.length _); rw [h0]; rfl⟩
 | 1, hj =>
  cases hj
  exact ⟨by show R1.length ≤ 3; omega, C_ints h.r1 (by show R1.length ≤ 1000; omega), rfl, by show some _ = some (Value.slice _ R1.length _); rw [h1]; rfl⟩
 | 2, hj =>
  cases hj
  exact ⟨by show R2.length ≤ 3; omega, C_ints h.r2 (by show R2.length ≤ 1000; omega), rfl, by show some _ = some (Value.slice _ R2.length _); rw [h2]; rfl⟩
 | 3, hj =>
  cases hj
  exact ⟨by show R3.length ≤ 3; omega, C_ints h.r3 (by show R3.length ≤ 1000; omega), rfl, by show some _ = some (Value.slice _ R3.length _); rw [h3]; rfl⟩
theorem TM.in34s {w : World} {g : Nat} {a b c : Int} {R1 R2 R3 : List Int} (h : TM w g 2 [a, b, c] R1 R2 R3) (h1 : R1.length = 3) (h2 : R2.length = 3) (h3 : R3.length = 3) :
  In34 w (.agg #[.slice (some ⟨g, 0, none⟩) 2 2, .slice (some ⟨g + 1, 0, none⟩) 3 3, .int .i64 2, .slice (some ⟨g + 6, 0, none⟩) 4 4]) trialLots trialSamples 2 [⟨3, [a, b]⟩, ⟨3, R1⟩, ⟨2, R2⟩, ⟨5, R3⟩] := by
 refine ⟨_, _, _, _, _, _, rfl, C_46 (xs := trialLots) h.lots (by decide), C_ints (xs := trialSamples) h.smp (by decide), C_75 (xs := [⟨3, [a, b]⟩, ⟨3, R1⟩, ⟨2, R2⟩, ⟨5, R3⟩]) (rd_ := fun j => g + 2 + j) (cp := fun _ => 3) h.labs (by simp) (fun j p hj => ?_)⟩
 match j, hj with
 | 0, hj =>
  cases hj
  exact ⟨by show ([a, b] : List Int).length ≤ 3; simp, C_pre (xs := [a, b]) (ys := [c]) h.r0 (by simp), rfl, rfl⟩
 | 1, hj =>
  cases hj
  exact ⟨by show R1.length ≤ 3; omega, C_ints h.r1 (by show R1.length ≤ 1000; omega), rfl, by show some _ = some (Value.slice _ R1.length _); rw [h1]; rfl⟩
 | 2, hj =>
  cases hj
  exact ⟨by show R2.length ≤ 3; omega, C_ints h.r2 (by show R2.length ≤ 1000; omega), rfl, by show some _ = some (Value.slice _ R2.length _); rw [h2]; rfl⟩
 | 3, hj =>
  cases hj
  exact ⟨by show R3.length ≤ 3; omega, C_ints h.r3 (by show R3.length ≤ 1000; omega), rfl, by show some _ = some (Value.slice _ R3.length _); rw [h3]; rfl⟩
theorem TM.few {w : World} {g gf cap : Nat} {R0 R1 R2 R3 : List Int} {cur : Array Value} (h : TM w g 3 R0 R1 R2 R3) (h0 : R0.length = 3) (h1 : R1.length = 3) (h3 : R3.length = 3) (hf : w.heap[gf]? = some (.cells cur 75 (0, 0)))
  (hc : cur.toList.take 6 = [.int .i64 3, .slice (some ⟨g + 2, 0, none⟩) 3 3, .int .i64 3, .slice (some ⟨g + 3, 0, none⟩) 3 3, .int .i64 5, .slice (some ⟨g + 5, 0, none⟩) 3 3]) :
  In34 w (.agg #[.slice (some ⟨g, 0, none⟩) 2 2, .slice (some ⟨g + 1, 0, none⟩) 3 3, .int .i64 2, .slice (some ⟨gf, 0, none⟩) 3 cap]) trialLots trialSamples 2 [⟨3, R0⟩, ⟨3, R1⟩, ⟨5, R3⟩] := by
 have hg : ∀ i, i < 6 → cur[i]? = ([.int .i64 3, .slice (some ⟨g + 2, 0, none⟩) 3 3, .int .i64 3, .slice (some ⟨g + 3, 0, none⟩) 3 3, .int .i64 5, .slice (some ⟨g + 5, 0, none⟩) 3 3] : List Value)[i]? := fun i hi => by
  rw [← hc, List.getElem?_take, if_pos hi, Array.getElem?_toList]
 refine ⟨_, _, _, _, _, _, rfl, C_46 (xs := trialLots) h.lots (by decide), C_ints (xs := trialSamples) h.smp (by decide), C_75 (xs := [⟨3, R0⟩, ⟨3, R1⟩, ⟨5, R3⟩]) (rd_ := fun j => if j = 2 then g + 5 else g + 2 + j) (cp := fun _ => 3) hf (by simp) (fun j p hj => ?_)⟩
 match j, hj with
 | 0, hj =>
  cases hj
  exact ⟨by show R0.length ≤ 3; omega, C_ints h.r0 (by show R0.length ≤ 1000; omega), (hg 0 (by decide)).trans rfl, (hg 1 (by decide)).trans (by show some _ = some (Value.slice _ R0.length _); rw [h0]; rfl)⟩
 | 1, hj =>
  cases hj
  exact ⟨by show R1.length ≤ 3; omega, C_ints h.r1 (by show R1.length ≤ 1000; omega), (hg 2 (by decide)).trans rfl, (hg 3 (by decide)).trans (by show some _ = some (Value.slice _ R1.length _); rw [h1]; rfl)⟩
 | 2, hj =>
  cases hj
  exact ⟨by show R3.length ≤ 3; omega, C_ints h.r3 (by show R3.length ≤ 1000; omega), (hg 4 (by decide)).trans rfl, (hg 5 (by decide)).trans (by show some _ = some (Value.slice _ R3.length _); rw [h3]; rfl)⟩
theorem ints_set {w : World} {g i : Nat} {l : List Int} {x : Int} (h : w.heap[g]? = some (intsB l)) : (w.setCell ⟨g, i, none⟩ (.int .i64 x)).heap[g]? = some (intsB (l.set i x)) := by
 have := blk_set h i (.int .i64 x)
 rw [this]
 unfold intsB encs
 rw [List.map_set]
 simp
theorem TM.set0 {w : World} {g m i : Nat} {R0 R1 R2 R3 : List Int} (h : TM w g m R0 R1 R2 R3) (x : Int) : TM (w.setCell ⟨g + 2, i, none⟩ (.int .i64 x)) g m (R0.set i x) R1 R2 R3 :=
 ⟨blk_far h.lots (by dsimp only; omega) _, blk_far h.smp (by dsimp only; omega) _, ints_set h.r0, blk_far h.r1 (by dsimp only; omega) _, blk_far h.r2 (by dsimp only; omega) _, blk_far h.r3 (by dsimp only; omega) _, blk_far h.labs (by dsimp only; omega) _⟩
theorem TM.set2 {w : World} {g m i : Nat} {R0 R1 R2 R3 : List Int} (h : TM w g m R0 R1 R2 R3) (x : Int) : TM (w.setCell ⟨g + 4, i, none⟩ (.int .i64 x)) g m R0 R1 (R2.set i x) R3 :=
 ⟨blk_far h.lots (by dsimp only; omega) _, blk_far h.smp (by dsimp only; omega) _, blk_far h.r0 (by dsimp only; omega) _, blk_far h.r1 (by dsimp only; omega) _, ints_set h.r2, blk_far h.r3 (by dsimp only; omega) _, blk_far h.labs (by dsimp only; omega) _⟩
theorem TM.short {w : World} {g : Nat} {R0 R1 R2 R3 : List Int} (h : TM w g 3 R0 R1 R2 R3) : TM (w.setCell ⟨g + 6, 1, none⟩ (.slice (some ⟨g + 2, 0, none⟩) 2 3)) g 2 R0 R1 R2 R3 :=
 ⟨blk_far h.lots (by dsimp only; omega) _, blk_far h.smp (by dsimp only; omega) _, blk_far h.r0 (by dsimp only; omega) _, blk_far h.r1 (by dsimp only; omega) _, blk_far h.r2 (by dsimp only; omega) _, blk_far h.r3 (by dsimp only; omega) _, by have := blk_set h.labs 1 (.slice (some ⟨g + 2, 0, none⟩) 2 3); rw [this]; rfl⟩
theorem TM.far {w : World} {g m k i : Nat} {R0 R1 R2 R3 : List Int} (h : TM w g m R0 R1 R2 R3) (hk : k < g ∨ g + 6 < k) (v : Value) : TM (w.setCell ⟨k, i, none⟩ v) g m R0 R1 R2 R3 :=
 ⟨blk_far h.lots (by dsimp only; omega) _, blk_far h.smp (by dsimp only; omega) _, blk_far h.r0 (by dsimp only; omega) _, blk_far h.r1 (by dsimp only; omega) _, blk_far h.r2 (by dsimp only; omega) _, blk_far h.r3 (by dsimp only; omega) _, blk_far h.labs (by dsimp only; omega) _⟩
theorem InL.two {W : World} {g : Nat} {a b : Int} (h : W.heap[g]? = some (.cells #[.int .i64 a, .int .i64 b] 3 (0, 0))) : InL W (.slice (some ⟨g, 0, none⟩) 2 2) [a, b] := ⟨some ⟨g, 0, none⟩, 2, rfl, Nat.le_refl _, C_ints (xs := [a, b]) h (by simp)⟩
def fewLabs : List S75 := [{ f0 := 3, f1 := [120, 122, 230] }, { f0 := 3, f1 := [124, 121, 234] }, { f0 := 5, f1 := [-1, 118, 229] }]
def wildLabs : List S75 := [{ f0 := 3, f1 := [120, 122, 230] }, { f0 := 3, f1 := [124, 121, 234] }, { f0 := 2, f1 := [131, 600, 240] }, { f0 := 5, f1 := [-1, 118, 229] }]
def oddLabs : List S75 := [{ f0 := 3, f1 := [1001, 122, 230] }, { f0 := 3, f1 := [124, 121, 234] }, { f0 := 2, f1 := [131, 133, 240] }, { f0 := 5, f1 := [-1, 118, 229] }]
def shortLabs : List S75 := [{ f0 := 3, f1 := [120, 122] }, { f0 := 3, f1 := [124, 121, 234] }, { f0 := 2, f1 := [131, 133, 240] }, { f0 := 5, f1 := [-1, 118, 229] }]
set_option maxRecDepth 100000 in
theorem n_ex : explainsF trialLots trialSamples 2 trialLabs [0, 1] = (false, 0) ∧ explainsF trialLots trialSamples 2 trialLabs [2, 2] = (false, 2) := by refine ⟨?_, ?_⟩ <;> kernel_rfl
set_option maxRecDepth 100000 in
theorem n_cv : convF trialLots trialSamples 2 trialLabs = ([2], 0) ∧ convF trialLots trialSamples 2 fewLabs = ([], 7) ∧ leastF trialLots trialSamples 2 fewLabs = ([], 0) := by refine ⟨?_, ?_, ?_⟩ <;> kernel_rfl
set_option maxRecDepth 100000 in
theorem n_sp : spansR trialLots trialSamples 2 trialLabs [4] = ([], 2) ∧ spansR trialLots trialSamples 2 trialLabs [0] = ([], 9) := by refine ⟨?_, ?_⟩ <;> kernel_rfl
set_option maxRecDepth 100000 in
theorem n_sh : shiftsF trialLots trialSamples 2 fewLabs 0 = (⟨-4, 2⟩, 0) ∧ shiftsF trialLots trialSamples 2 trialLabs 4 = (⟨0, 0⟩, 2) ∧ shiftsF trialLots trialSamples 2 trialLabs 0 = (⟨0, 0⟩, 9) ∧ shiftsF trialLots trialSamples 2 wildLabs 2 = (⟨0, 0⟩, 7) := by refine ⟨?_, ?_, ?_, ?_⟩ <;> kernel_rfl
set_option maxRecDepth 100000 in
theorem n_ck : checkRound trialLots trialSamples 2 oddLabs = 1 ∧ checkRound trialLots trialSamples 2 shortLabs = 1 ∧ checkRound [] [] 0 [] = 1 ∧ checkRound [⟨0, 0⟩, ⟨0, 0⟩, ⟨0, 0⟩, ⟨0, 0⟩, ⟨0, 0⟩] [] 0 [] = 3 := by refine ⟨?_, ?_, ?_, ?_⟩ <;> kernel_rfl
end Go.Proofs.Ytcpbhklaffgokaa.Q
namespace Go.Proofs.Ytcpbhklaffgokaa.Q
open Go.RowKit Go.Proofs.YtcpbhklaffgokaaW.PrintWords Go.Proofs.YtcpbhklaffgokaaW.PrintLast Go.Proofs.YtcpbhklaffgokaaW.PrintMore
set_option linter.unusedVariables false
set_option linter.unusedSimpArgs false
end Go.Proofs.Ytcpbhklaffgokaa.Q
namespace Go.Proofs.Ytcpbhklaffgokaa.Q
open Go.RowKit Go.Proofs.YtcpbhklaffgokaaW.PrintWords Go.Proofs.YtcpbhklaffgokaaW.PrintLast Go.Proofs.YtcpbhklaffgokaaW.PrintMore
set_option linter.unusedVariables false
set_option linter.unusedSimpArgs false
section
variable {P : Program} {ops : Array Oper} {o : Oper} {a : Act} {Q : Exit → Act → World → Prop} {Kc : Act → World → Prop}
theorem lit_blk_step {W : World} (hw : Region.wanted o (yielded ops a.tmps) = true) {N : Tmp} (_hd : o.dst = some N) {cs : Array Value} {t : TypeId} {n : Nat}
  (hrun : (execOp a.eval o).run P W = .ok (.value (.slice (some ⟨W.heap.size, 0, none⟩) n n)) (W.alloc (.cells cs t (0, 0))))
  (h : ∀ g, g = W.heap.size → ∀ w1, w1.heap[g]? = some (.cells cs t (0, 0)) → Below W.heap.size W w1 → Kc (a.put o.dst (.slice (some ⟨g, 0, none⟩) n n)) w1) : if Region.wanted o (yielded ops a.tmps) = true then Oper.wp P o a W Kc Q else Kc (a.put o.dst undef) W :=
 event_step hw hrun (h _ rfl _ (blk_new W _) (below_alloc (Below.refl _ _) _))
end
end Go.Proofs.Ytcpbhklaffgokaa.Q
