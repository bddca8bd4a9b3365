import Derived.LoopIn
import Derived.LoopNIn
import Derived.OwnWalkIn
import Derived.RangeFuncBound
import Derived.RangeFuncCalls
import Derived.RangeFuncNested
import Derived.TacticsInMore
import Derived.Test.YtcpbhklaffgokaaC14x5
namespace Go.Proofs.Ytcpbhklaffgokaa.Q
open Go.RowKit Go.Proofs.YtcpbhklaffgokaaW.PrintWords Go.Proofs.YtcpbhklaffgokaaW.PrintLast Go.Proofs.YtcpbhklaffgokaaW.PrintMore
set_option linter.unusedVariables false
set_option linter.unusedSimpArgs false
attribute [local go_sem] Oper.semAt_some
theorem off_at (o : Nat → Bool) (k : Nat) (h : k < 6) : (#[.bool (o 0), .bool (o 1), .bool (o 2), .bool (o 3), .bool (o 4), .bool (o 5)] : Array Value)[k]? = some (.bool (o k)) := by
 match k, h with
 | 0, _ | 1, _ | 2, _ | 3, _ | 4, _ | 5, _ => rfl
structure Kb (n R : Nat) (A B : World) : Prop where
 os : B.os = A.os
 tape : B.tape = A.tape
 output : B.output = A.output
 size : A.heap.size ≤ B.heap.size
 block : ∀ k, k < n → k ≠ R → B.heap[k]? = A.heap[k]?
theorem Kb.refl (n R : Nat) (A : World) : Kb n R A A := ⟨rfl, rfl, rfl, Nat.le_refl _, fun _ _ _ => rfl⟩
theorem Kb.trans {n R : Nat} {A B C : World} (h : Kb n R A B) (k : Kb n R B C) : Kb n R A C :=
 ⟨k.os.trans h.os, k.tape.trans h.tape, k.output.trans h.output, Nat.le_trans h.size k.size, fun i hi hr => (k.block i hi hr).trans (h.block i hi hr)⟩
theorem kb_of_below {n R : Nat} {A B : World} (h : Below n A B) : Kb n R A B := ⟨h.os, h.tape, h.output, h.size, fun k hk _ => h.block k hk⟩
theorem Kb.below {n R m : Nat} {A B : World} (h : Kb n R A B) (h1 : m ≤ n) (h2 : m ≤ R) : Below m A B :=
 ⟨h.os, h.tape, h.output, h.size, fun k hk => h.block k (by omega) (by omega)⟩
theorem Kb.set {n R : Nat} {A B : World} (h : Kb n R A B) (i : Nat) (v : Value) : Kb n R A (B.setCell ⟨R, i, none⟩ v) :=
 h.trans ⟨rfl, rfl, rfl, by simp [World.setCell], fun k _ hk => Below.heap_setCell _ _ _ k hk⟩
theorem Kb.step {R : Nat} {w A B : World} (h : Kb w.heap.size R w A) (k : Below A.heap.size A B) : Kb w.heap.size R w B := h.trans (kb_of_below (k.mono h.size))
theorem abides_step {β : Type} {B : Nat} {J : β → World → Prop} (h : AbidesFrom B J) {s : β} {W W' : World} (hs : J s W) (hb : Below W.heap.size W W') : J s W' :=
 h s W W' none hs ⟨hb.os, hb.tape, hb.output, hb.size, fun k hk _ => hb.block k hk⟩ (fun r e => by cases e)
theorem kb_putObj {n R : Nat} {w : World} (hn : n ≤ w.heap.size) (W : World) (l : Nat) (o o' : Obj) (hl : w.heap.size ≤ l) (h : W.heap[l]? = some o) (_ : o.isCells = false) (_ : o.isWalk = false) : Kb n R W (W.putObj l o') :=
 kb_of_below (belowK_b (n₀ := n) hn W l o o' hl h ‹_› ‹_›)
theorem readings_any (jb : Nat) (i : Int) (o : Nat → Bool) (lab d : Int) (w : World) :
  Calls Try.prog 74 #[.pointer (some ⟨jb, 0, none⟩), .int .i64 i, .agg #[.bool (o 0), .bool (o 1), .bool (o 2), .bool (o 3), .bool (o 4), .bool (o 5)], .agg #[.int .i64 lab, .int .i64 d]] w fun e w' =>
   e = .returned (.func (.func 89) #[] #[.pointer (some ⟨w.heap.size, 0, none⟩), .pointer (some ⟨w.heap.size + 1, 0, none⟩), .pointer (some ⟨w.heap.size + 1 + 1, 0, none⟩), .pointer (some ⟨w.heap.size + 1 + 1 + 1, 0, none⟩)]) ∧
   w' = (((w.alloc (.cells #[.pointer (some ⟨jb, 0, none⟩)] 83)).alloc (.cells #[.int .i64 i] 3)).alloc (.cells #[.bool (o 0), .bool (o 1), .bool (o 2), .bool (o 3), .bool (o 4), .bool (o 5)] 85)).alloc (.cells #[.int .i64 lab, .int .i64 d] 94) := by
 go_enter Try.func74, Try.ntmps74
 go_wp2
 go_ret
 exact ⟨rfl, rfl⟩
def rdL (x : S75) (i : Int) : Int := rd x.f1 i
def rangeOf (lab d i : Int) (k : Nat) (x : S75) : S46 :=
 let n := if (k : Int) = lab then rdL x i - d else rdL x i
 ⟨n - x.f0, n + x.f0⟩
def readsFrom (o : Nat → Bool) (lab d i : Int) : Nat → List S75 → List S46
 | _, [] => []
 | k, x :: xs => if o k = true ∨ rdL x i = -1 then readsFrom o lab d i (k + 1) xs else rangeOf lab d i k x :: readsFrom o lab d i (k + 1) xs
def LabOk (m : Nat) (x : S75) : Prop := 0 ≤ x.f0 ∧ x.f0 ≤ 100 ∧ x.f1.length = m ∧ ∀ n ∈ x.f1, -1 ≤ n ∧ n ≤ 1000
theorem readsFrom_take (o : Nat → Bool) (lab d i : Int) (xs : List S75) : ∀ (k c : Nat), k < xs.length →
  readsFrom o lab d i c (xs.take (k + 1)) = readsFrom o lab d i c (xs.take k) ++ (if o (c + k) = true ∨ rdL (xs.getD k z75) i = -1 then [] else [rangeOf lab d i (c + k) (xs.getD k z75)]) := by
 induction xs with
 | nil => intro k c h; exact absurd h (Nat.not_lt_zero _)
 | cons x xs ih =>
  intro k c h
  cases k with
  | zero => simp only [readsFrom, List.take_succ_cons, List.take_zero, List.nil_append, Nat.add_zero, List.getD_cons_zero]
  | succ k =>
   have := ih k (c + 1) (by simpa using h)
   rw [List.take_succ_cons, List.take_succ_cons]
   simp only [readsFrom]
   rw [this, show c + 1 + k = c + (k + 1) by omega]
   simp only [List.getD_cons_succ]
   split <;> simp
set_option maxHeartbeats 4000000 in
theorem reads_stops (n R jb b0 b1 b2 b3 : Nat) (A3 : Option Addr) (c3 : Nat) (labs : List S75) (i : Int) (m : Nat) (o : Nat → Bool) (lab d : Int) (A0 : Value) (A1 : Value) (sp : Value) (mp : Value)
  (hn : labs.length ≤ 6) (hi0 : 0 ≤ i) (hi : i < m) (hm : m ≤ 8) (hl : ∀ x ∈ labs, LabOk m x) (hd : -2000 ≤ d) (hd' : d ≤ 2000) (w : World)
  (h0 : w.heap[b0]? = some (.cells #[.pointer (some ⟨jb, 0, none⟩)] 83 (0, 0))) (h1 : w.heap[b1]? = some (.cells #[.int .i64 i] 3 (0, 0)))
  (h2 : w.heap[b2]? = some (.cells #[.bool (o 0), .bool (o 1), .bool (o 2), .bool (o 3), .bool (o 4), .bool (o 5)] 85 (0, 0))) (h3 : w.heap[b3]? = some (.cells #[.int .i64 lab, .int .i64 d] 94 (0, 0)))
  (hR0 : b0 ≠ R) (hR1 : b1 ≠ R) (hR2 : b2 ≠ R) (hR3 : b3 ≠ R)
  (hC : ∀ W, Kb w.heap.size R w W → Kd.C k75 W A3 labs.length labs ∧ W.heap[jb]? = some (.cells #[A0, A1, sp, .slice A3 labs.length c3, mp] 107 (0, 0))) :
  SeqStopsK Fence.wide n Try.prog 89 #[.pointer (some ⟨b0, 0, none⟩), .pointer (some ⟨b1, 0, none⟩), .pointer (some ⟨b2, 0, none⟩), .pointer (some ⟨b3, 0, none⟩)]
   (fun x : S46 => #[.agg #[.int .i64 x.f0, .int .i64 x.f1]]) (Kb w.heap.size R) (fun xs => xs = readsFrom o lab d i 0 labs) (fun _ => True) labs.length w := by
 intro l J Jx W hW hJ hJx hY h00
 have HW := Aside0.mk (kb_of_below (R := R) hW)
 have HJ := Aside0.mk hJ
 have HJx := Aside0.mk hJx
 have HY := Aside0.mk hY
 have H00 := Aside0.mk h00
 have HC := Aside0.mk hC
 have HL := Aside0.mk hl
 clear hW hJ hJx hY h00 hC hl
 have K0 := Aside0.mk (fun W (h : Kb w.heap.size R w W) => (h.block b0 (blk_lt h0) hR0).trans h0)
 have K1 := Aside0.mk (fun W (h : Kb w.heap.size R w W) => (h.block b1 (blk_lt h1) hR1).trans h1)
 have K2 := Aside0.mk (fun W (h : Kb w.heap.size R w W) => (h.block b2 (blk_lt h2) hR2).trans h2)
 have K3 := Aside0.mk (fun W (h : Kb w.heap.size R w W) => (h.block b3 (blk_lt h3) hR3).trans h3)
 clear h0 h1 h2 h3 hR0 hR1 hR2 hR3
 have e0 : W.cell? ⟨b0, 0, none⟩ = some (.pointer (some ⟨jb, 0, none⟩)) := (blk_cell (K0.out W HW.out) 0).trans rfl
 have e1 : W.cell? ⟨jb, 3, none⟩ = some (.slice A3 labs.length c3) := (blk_cell (HC.out W HW.out).2 3).trans rfl
 refine callsIn_of_wp Try.func89 rfl trivial ?_ rfl
 simp only [Try.ntmps89, List.size_toArray, List.length_cons, List.length_nil, Nat.reduceAdd, Nat.reduceSub, Array.replicate_succ, Array.replicate_zero, List.push_toArray, List.append_toArray, List.nil_append, List.cons_append]
 gi_wp2
 clear e0 e1
 gi_loopw [15] (fun q wr => ∃ (k : Int) (pre : List S46), 0 ≤ k ∧ k ≤ labs.length ∧ q = .int .i64 k ∧ Aside0 (pre = readsFrom o lab d i 0 (labs.take k.toNat)) ∧ Aside0 (pre.length ≤ k.toNat) ∧ Aside0 (J pre wr) ∧ Aside0 (Kb w.heap.size R w wr)) (fun q _ => labs.length - (intOf q).toNat)
 case atStart => exact ⟨0, [], by omega, by omega, rfl, ⟨rfl⟩, ⟨Nat.le_refl _⟩, H00, HW⟩
 case round =>
  obtain ⟨k, pre, hk0, hk, rfl, HP, HPL, HJ1, HB⟩ := hrel
  by_cases hlt : k < labs.length
  ·obtain ⟨ad, B, dB, hA, hx0, hx1, hl1, hg1⟩ := at_T75 (HC.out wr HB.out).1 k (by omega) (by omega)
   obtain rfl := hA
   have hxm : rd_T75 labs k ∈ labs := rd_mem z75 labs k hk0 hlt
   obtain ⟨t0, t1, t2, t3⟩ := HL.out _ hxm
   have hil : i < (rd_T75 labs k).f1.length := by omega
   obtain ⟨ad2, hA2, hy0⟩ := Kd.at_int hg1 i hi0 hil
   obtain rfl := hA2
   obtain ⟨r0, r1⟩ := t3 (rd (rd_T75 labs k).f1 i) (rd_mem 0 _ i hi0 hil)
   have f1 : ∀ ob, (wr.alloc ob).cell? ⟨b1, 0, none⟩ = some (.int .i64 i) := fun ob => (blk_cell (blk_alloc (K1.out wr HB.out) ob) 0).trans rfl
   have f2 : ∀ ob, (wr.alloc ob).cell? ⟨b2, k.toNat, none⟩ = some (.bool (o k.toNat)) := fun ob => (blk_cell (blk_alloc (K2.out wr HB.out) ob) k.toNat).trans (off_at o k.toNat (by omega))
   have f3 : ∀ ob, (wr.alloc ob).cell? ⟨b3, 0, none⟩ = some (.int .i64 lab) := fun ob => (blk_cell (blk_alloc (K3.out wr HB.out) ob) 0).trans rfl
   have f4 : ∀ ob, (wr.alloc ob).cell? ⟨b3, 1, none⟩ = some (.int .i64 d) := fun ob => (blk_cell (blk_alloc (K3.out wr HB.out) ob) 1).trans rfl
   have f5 : ∀ ob, (wr.alloc ob).cell? (ad2.add i.toNat) = some (.int .i64 (rd (rd_T75 labs k).f1 i)) := fun ob => (World.cell?_alloc_lt _ _ _ (World.block_lt_of_cell? _ _ hy0)).trans hy0
   have HT := Aside0.mk (readsFrom_take o lab d i labs k.toNat 0 (by omega))
   have HLen := Aside0.mk hl1
   clear t2 t3 hxm hg1 hy0 hl1
   have hk6 : k < 6 := by omega
   have HK1 : Aside0 ((k + 1).toNat = k.toNat + 1) := ⟨by omega⟩
   have hskip : o k.toNat = true ∨ rd (rd_T75 labs k).f1 i = -1 → pre = readsFrom o lab d i 0 (labs.take (k + 1).toNat) := fun h => by
    rw [HK1.out, HT.out, if_pos (by rw [Nat.zero_add]; exact h), List.append_nil]; exact HP.out
   have HSk := Aside0.mk hskip
   have htake : ¬ (o k.toNat = true ∨ rd (rd_T75 labs k).f1 i = -1) → pre ++ [rangeOf lab d i k.toNat (rd_T75 labs k)] = readsFrom o lab d i 0 (labs.take (k + 1).toNat) := fun h => by
    rw [HK1.out, HT.out, if_neg (by rw [Nat.zero_add]; exact h), Nat.zero_add, HP.out]; rfl
   have HTk := Aside0.mk htake
   clear hskip htake HT
   cases ho : o k.toNat
   ·rw [ho] at f2
    by_cases hr1 : rd (rd_T75 labs k).f1 i = -1
    ·have HSk := Aside0.mk (HSk.out (.inr hr1))
     have hb1 : (rd (rd_T75 labs k).f1 i == -1) = true := beq_iff_eq.2 hr1
     clear hr1 r0 r1
     gi_wp2
     go_roundw
     case rel => exact ⟨k + 1, pre, by omega, by omega, rfl, HSk, ⟨by have := HPL.out; omega⟩, ⟨abides_step HJ.out HJ1.out (below_alloc (Below.refl _ _) _)⟩, ⟨HB.out.step (below_alloc (Below.refl _ _) _)⟩⟩
     case measure => simp [intOf]; omega
    ·have HTk := Aside0.mk (HTk.out (fun h => h.elim (fun h => by rw [ho] at h; cases h) hr1))
     have hb1 : (rd (rd_T75 labs k).f1 i == -1) = false := beq_eq_false_iff_ne.2 hr1
     have G5 := Aside0.mk (HJ1)
     by_cases hkl : lab = k
     ·subst hkl
      have hkl2 : ((lab.toNat : Int) = lab) := by omega
      have HR : rangeOf lab d i lab.toNat (rd_T75 labs lab) = ⟨rd (rd_T75 labs lab).f1 i - d - (rd_T75 labs lab).f0, rd (rd_T75 labs lab).f1 i - d + (rd_T75 labs lab).f0⟩ := by
       simp only [rangeOf, rdL, if_pos hkl2]
      rw [HR] at HTk
      clear HR hkl2 hr1 HSk
      gi_wp2_with (refine ⟨trivial, (fun h => absurd h (by decide)), ?_⟩; gi_at_call 77; refine (callsIn_wide.2 (wider_any _ _ _ _ (by omega) (by omega) (by omega) (by omega) (by omega) (by omega))).mono ?_; rintro e w3 ⟨rfl, hb⟩; have HBW := Aside0.mk (below_step (below_alloc (Below.refl _ _) _) hb); clear hb; obtain ⟨fn, tmps, assign, body, hy, hR⟩ := HY.out pre ⟨rd (rd_T75 labs lab).f1 i - d - (rd_T75 labs lab).f0, rd (rd_T75 labs lab).f1 i - d + (rd_T75 labs lab).f0⟩ w3 (abides_step HJ.out HJ1.out HBW.out) (by have := HPL.out; omega); dsimp only at hy; have hR := Aside0.mk hR)
      refine ⟨(fun h => absurd h (by decide)), hR.out.mono ?_⟩
      rintro e W4 (⟨rfl, hJ4, hk4⟩ | ⟨rfl, hJ4⟩)
      ·have HJ4 := Aside0.mk hJ4
       have HK4 := Aside0.mk ((HB.out.step HBW.out).trans hk4)
       clear hJ4 hk4 hR hy
       gi_wp2
       go_roundw
       case rel => exact ⟨lab + 1, _, by omega, by omega, rfl, HTk, ⟨by have := HPL.out; rw [List.length_append]; simp only [List.length_cons, List.length_nil]; omega⟩, HJ4, HK4⟩
       case measure => simp [intOf]; omega
      ·have HJ4 := Aside0.mk hJ4
       clear hJ4 hR hy
       gi_wp2
       refine bodyPost_ret (results_none rfl _ _ _) rfl ?_
       exact ⟨⟨_, rfl⟩, .inr ⟨_, trivial, HJ4.out⟩⟩
     ·have hb2 : (k == lab) = false := beq_eq_false_iff_ne.2 (fun h => hkl h.symm)
      have hkl2 : ¬ ((k.toNat : Int) = lab) := by omega
      have HR : rangeOf lab d i k.toNat (rd_T75 labs k) = ⟨rd (rd_T75 labs k).f1 i - (rd_T75 labs k).f0, rd (rd_T75 labs k).f1 i + (rd_T75 labs k).f0⟩ := by
       simp only [rangeOf, rdL, if_neg hkl2]
      rw [HR] at HTk
      clear HR hkl2 hkl hr1 HSk
      gi_wp2_with (refine ⟨trivial, (fun h => absurd h (by decide)), ?_⟩; gi_at_call 77; refine (callsIn_wide.2 (wider_any _ _ _ _ (by omega) (by omega) (by omega) (by omega) (by omega) (by omega))).mono ?_; rintro e w3 ⟨rfl, hb⟩; have HBW := Aside0.mk (below_step (below_alloc (Below.refl _ _) _) hb); clear hb; obtain ⟨fn, tmps, assign, body, hy, hR⟩ := HY.out pre ⟨rd (rd_T75 labs k).f1 i - (rd_T75 labs k).f0, rd (rd_T75 labs k).f1 i + (rd_T75 labs k).f0⟩ w3 (abides_step HJ.out HJ1.out HBW.out) (by have := HPL.out; omega); dsimp only at hy; have hR := Aside0.mk hR)
      refine ⟨(fun h => absurd h (by decide)), hR.out.mono ?_⟩
      rintro e W4 (⟨rfl, hJ4, hk4⟩ | ⟨rfl, hJ4⟩)
      ·have HJ4 := Aside0.mk hJ4
       have HK4 := Aside0.mk ((HB.out.step HBW.out).trans hk4)
       clear hJ4 hk4 hR hy
       gi_wp2
       go_roundw
       case rel => exact ⟨k + 1, _, by omega, by omega, rfl, HTk, ⟨by have := HPL.out; rw [List.length_append]; simp only [List.length_cons, List.length_nil]; omega⟩, HJ4, HK4⟩
       case measure => simp [intOf]; omega
      ·have HJ4 := Aside0.mk hJ4
       clear hJ4 hR hy
       gi_wp2
       refine bodyPost_ret (results_none rfl _ _ _) rfl ?_
       exact ⟨⟨_, rfl⟩, .inr ⟨_, trivial, HJ4.out⟩⟩
   ·have HSk := Aside0.mk (HSk.out (.inl ho))
    rw [ho] at f2
    gi_wp2
    go_roundw
    case rel => exact ⟨k + 1, pre, by omega, by omega, rfl, HSk, ⟨by have := HPL.out; omega⟩, ⟨abides_step HJ.out HJ1.out (below_alloc (Below.refl _ _) _)⟩, ⟨HB.out.step (below_alloc (Below.refl _ _) _)⟩⟩
    case measure => simp [intOf]; omega
  ·have HE : Aside0 (J (readsFrom o lab d i 0 labs) wr) := ⟨by have h1 := HP.out; rw [List.take_of_length_le (by omega)] at h1; rw [← h1]; exact HJ1.out⟩
   gi_wp2
   go_end0
   exact ⟨⟨_, rfl⟩, .inl HE.out⟩
end Go.Proofs.Ytcpbhklaffgokaa.Q
