import Derived.Carry
import Derived.ChangeOld
import Derived.ChangeSame
import Derived.Deep.Fields
import Derived.Deep.Slices
import Derived.Lib.SmallJoins
import Derived.OpenShut
import Derived.ProofKit
import Derived.ShutString
import Derived.SizedLaws
import Derived.Test.YtcpbhklaffgokaaC13x2
import Derived.Test.YtcpbhklaffgokaaRows
namespace Go.Proofs.Ytcpbhklaffgokaa.Q
open Go.ChangeShapes Go.WideShapes Go.ChangeAt Go.RowKit Go.Deep Go.Joins Go.Proofs.YtcpbhklaffgokaaW.PrintWords Go.Proofs.YtcpbhklaffgokaaW.PrintLast Go.Proofs.YtcpbhklaffgokaaW.PrintMore
set_option linter.unusedVariables false
set_option linter.unusedSimpArgs false
theorem list2 {α : Type} {l : List α} (h : l.length = 2) : ∃ a b, l = [a, b] := by
 match l, h with
 | [a, b], _ => exact ⟨a, b, rfl⟩
section
variable {H : Type} {enc : TypeId × Value → H} {W : World}
theorem open_row {α : Type} [Inhabited α] (d : Kd α) (p : α → Prop) {t e fuel : Nat} {v : Value} {y : DataW H × List MemPlace} (ht : Try.prog.underlying t = some (.slice e)) (hC : Try.prog.cellsOf e = d.sz)
  (he : ∀ n cs z, cs.length = d.sz → DataW.trod enc Try.prog W 0 (fun _ => true) true n e cs = some z → ∃ x, d.K W x cs ∧ p x)
  (h : DataW.trod enc Try.prog W 0 (fun _ => true) true fuel t [v] = some y) :
  ∃ (A : Option Addr) (c : Nat) (xs : List α), v = .slice A xs.length c ∧ xs.length ≤ c ∧ xs.length ≤ 9223372036854775807 ∧ d.C W A xs.length xs ∧ ∀ x ∈ xs, p x := by
 rcases open_slice ht h with ⟨hcs, _⟩ | ⟨a, len, cap, m, n, D, Pl, hcs, hb, hl, hm, hmm, hx, hi⟩
 ·injection hcs with hcs
  subst hcs
  exact ⟨none, 0, [], rfl, Nat.le_refl _, Nat.zero_le _, Kd.C_nil _ _, fun x hx => by cases hx⟩
 ·injection hcs with hcs
  subst hcs
  have hmm : m = cap := hmm
  have key : ∀ i, i < len → ∃ x, (∃ cs', W.cells? 0 (a.add (i * d.sz)) d.sz = some cs' ∧ d.K W x cs') ∧ p x := by
   intro i hil
   obtain ⟨cs', h1, h2⟩ := hi i (by omega)
   rw [hC] at h1
   obtain ⟨x, hk, hp⟩ := he n cs' _ (World.cells?_some h1).2.1 h2
   exact ⟨x, ⟨cs', h1, hk⟩, hp⟩
  obtain ⟨f, hf⟩ := choose_lt key
  have hlen : ((List.range len).map f).length = len := by rw [List.length_map, List.length_range]
  have hm' : cap ≤ 9223372036854775807 := hm
  refine ⟨some a, cap, (List.range len).map f, by rw [hlen], by rw [hlen]; exact hl, by rw [hlen]; omega, ⟨rfl, by rw [hlen]; omega, fun _ => ⟨a, rfl, fun j q hj => ?_⟩⟩, fun x hx => ?_⟩
  ·have hjl : j < len := by
    have := (List.getElem?_eq_some_iff.1 hj).1
    omega
   rw [List.getElem?_map, List.getElem?_range hjl] at hj
   simp only [Option.map_some, Option.some.injEq] at hj
   subst hj
   obtain ⟨⟨cs', h1, h2⟩, _⟩ := hf j hjl
   obtain ⟨_, hcl, hat⟩ := World.cells?_some h1
   refine ⟨cs', hcl, h2, fun i u hu => ?_⟩
   have hil : i < d.sz := by
    have := (List.getElem?_eq_some_iff.1 hu).1
    omega
   rw [← Go.Deep.add_add, hat i hil]
   exact hu
  ·obtain ⟨i, hi', rfl⟩ := List.mem_map.1 hx
   exact (hf i (List.mem_range.1 hi')).2
theorem elem_int {k : IntKind} {e : Nat} (hu : Try.prog.underlying e = some (.int k)) (n : Nat) (cs : List Value) (z : DataW H × List MemPlace) (h : DataW.trod enc Try.prog W 0 (fun _ => true) true n e cs = some z) :
  ∃ x, (Kd.int k).K W x cs ∧ (Lit.int k x).wf = true := by
 obtain ⟨m, rfl, _, hw⟩ := DataW.trod_int hu h
 exact ⟨m, rfl, hw⟩
set_option maxRecDepth 100000 in
theorem pair_fields {e : Nat} {f0 f1 : Field} (hs : Try.prog.underlying e = some (.struct #[f0, f1])) (hone : oneCellFields Try.prog #[f0, f1] = true) {n : Nat} {cs : List Value} {z : DataW H × List MemPlace} (hl : cs.length = 2) (h : DataW.trod enc Try.prog W 0 (fun _ => true) true n e cs = some z) :
  ∃ (c0 c1 : Value) (y0 y1 : DataW H × List MemPlace) (m : Nat), cs = [c0, c1] ∧ DataW.trod enc Try.prog W 0 (fun _ => true) true m f0.type [c0] = some y0 ∧ DataW.trod enc Try.prog W 0 (fun _ => true) true m f1.type [c1] = some y1 := by
 obtain ⟨ys, m, _, _, _, hyl, hf⟩ := DataW.trod_struct hs h
 obtain ⟨c0, c1, rfl⟩ := list2 hl
 obtain ⟨o0, k0⟩ := hone_of hone 0 f0 rfl
 obtain ⟨o1, k1⟩ := hone_of hone 1 f1 rfl
 obtain ⟨y0, y1, rfl⟩ := list2 hyl
 exact ⟨c0, c1, y0, y1, m, rfl, by simpa [o0, k0] using hf 0 f0 rfl, by simpa [o1, k1] using hf 1 f1 rfl⟩
instance : Inhabited S44 := ⟨z44⟩
instance : Inhabited S62 := ⟨z62⟩
theorem elem44 (n : Nat) (cs : List Value) (z : DataW H × List MemPlace) (hl : cs.length = 2) (h : DataW.trod enc Try.prog W 0 (fun _ => true) true n 44 cs = some z) : ∃ x, k44.K W x cs ∧ (fun _ => True) x := by
 obtain ⟨c0, c1, y0, y1, m, rfl, h0, h1⟩ := pair_fields Try.underlying44 (by kernel_rfl) hl h
 obtain ⟨a, ha, _⟩ := DataW.trod_int Try.underlying3 h0
 obtain ⟨b, hb, _⟩ := DataW.trod_int Try.underlying3 h1
 injection ha with ha
 injection hb with hb
 subst ha hb
 exact ⟨⟨a, b⟩, k44_mk W ⟨a, b⟩, trivial⟩
theorem elem62 (n : Nat) (cs : List Value) (z : DataW H × List MemPlace) (hl : cs.length = 2) (h : DataW.trod enc Try.prog W 0 (fun _ => true) true n 62 cs = some z) : ∃ x : S62, k62.K W x cs ∧ x.f1.length ≤ 9223372036854775807 := by
 obtain ⟨c0, c1, y0, y1, m, rfl, h0, h1⟩ := pair_fields Try.underlying62 (by kernel_rfl) hl h
 obtain ⟨a, ha, _⟩ := DataW.trod_int Try.underlying3 h0
 injection ha with ha
 subst ha
 obtain ⟨A, c, xs, rfl, hc, hm, hC, _⟩ := open_row (Kd.int .i64) (fun x => (Lit.int .i64 x).wf = true) Try.underlying23 (by kernel_rfl) (fun n cs z _ h => elem_int Try.underlying3 n cs z h) h1
 exact ⟨⟨a, xs⟩, k62_mk W ⟨a, xs⟩ hc hC, hm⟩
structure In26 (W : World) (v : Value) (A0 : Option Addr) (c0 : Nat) (lots : List S44) (A1 : Option Addr) (c1 : Nat) (samples : List Int) (spread : Int) (A3 : Option Addr) (c3 : Nat) (labs : List S62) : Prop where
 eq : v = .agg #[.slice A0 lots.length c0, .slice A1 samples.length c1, .int .i64 spread, .slice A3 labs.length c3]
 r0 : Kd.C k44 W A0 lots.length lots
 h0 : lots.length ≤ c0
 r1 : (Kd.int .i64).C W A1 samples.length samples
 h1 : samples.length ≤ c1
 r3 : Kd.C k62 W A3 labs.length labs
 h3 : labs.length ≤ c3
 a : lots.length ≤ 9223372036854775807
 b : samples.length ≤ 9223372036854775807
 c : labs.length ≤ 9223372036854775807
 d : ∀ x ∈ labs, x.f1.length ≤ 9223372036854775807
set_option maxRecDepth 100000 in
theorem open_round {r : Reach} {b0 : Nat} {v : Value} {d : DataW H} {p : List MemPlace} (hv : Value.okWide Try.prog W r b0 26 v) (h : DataW.Trod enc Try.prog W 0 (fun _ => true) true 26 v d p) :
  ∃ A0 c0 lots A1 c1 samples spread A3 c3 labs, In26 W v A0 c0 lots A1 c1 samples spread A3 c3 labs := by
 obtain ⟨v0, v1, v2, v3, y0, y1, y2, y3, n, rfl, _, _, h0, h1, h2, h3⟩ := open_agg4 Try.underlying26 (by kernel_rfl) (by kernel_rfl) hv h
 obtain ⟨A0, c0, lots, rfl, hc0, hm0, hC0, _⟩ := open_row k44 (fun _ => True) Try.underlying22 (by kernel_rfl) (fun n cs z hl h => elem44 n cs z hl h) h0
 obtain ⟨A1, c1, samples, rfl, hc1, hm1, hC1, _⟩ := open_row (Kd.int .i64) (fun x => (Lit.int .i64 x).wf = true) Try.underlying23 (by kernel_rfl) (fun n cs z _ h => elem_int Try.underlying3 n cs z h) h1
 obtain ⟨spread, hs, _⟩ := DataW.trod_int Try.underlying3 h2
 injection hs with hs
 subst hs
 obtain ⟨A3, c3, labs, rfl, hc3, hm3, hC3, hd⟩ := open_row k62 (fun x => x.f1.length ≤ 9223372036854775807) Try.underlying24 (by kernel_rfl) (fun n cs z hl h => elem62 n cs z hl h) h3
 exact ⟨A0, c0, lots, A1, c1, samples, spread, A3, c3, labs, ⟨rfl, hC0, hc0, hC1, hc1, hC3, hc3, hm0, hm1, hm3, hd⟩⟩
end
theorem own0 : ownKnob Try.prog.godebug = none := by kernel_rfl
theorem laid0 : laidOutB Try.prog = true := by kernel_rfl
end Go.Proofs.Ytcpbhklaffgokaa.Q
namespace Go.Proofs.YtcpbhklaffgokaaW.PrintWords
open Go.RowKit
section
variable {P : Program} {d : Nat} {xs ys : Array Value} {f : Field} {fs : List Field} {a b : Value} {r s : Bool} {w : World}
theorem eqf_last (hn : (f.name == "_") = false) (ha : (part f.type xs f.offset).run P w = .ok a w) (hb : (part f.type ys f.offset).run P w = .ok b w) (he : (Op.equalIn d f.type a b).run P w = .ok r w) : (Op.eqFields d xs ys [f]).run P w = .ok r w := by
 have hn' : f.name ≠ "_" := by simpa using hn
 simp only [Op.eqFields, if_pos hn', Sem.run_bind, ha, hb, he, Result.andThen_ok]
 cases r <;> simp
theorem eqf_cons (hn : (f.name == "_") = false) (ha : (part f.type xs f.offset).run P w = .ok a w) (hb : (part f.type ys f.offset).run P w = .ok b w) (he : (Op.equalIn d f.type a b).run P w = .ok r w) (hr : (Op.eqFields d xs ys fs).run P w = .ok s w) : (Op.eqFields d xs ys (f :: fs)).run P w = .ok (r && s) w := by
 have hn' : f.name ≠ "_" := by simpa using hn
 rw [Op.eqFields]
 simp only [if_pos hn', Sem.run_bind, ha, hb, he, Result.andThen_ok]
 cases r
 ·simp
 ·simpa using hr
theorem eqA_of {t : TypeId} {fs : Array Field} (hu : P.underlying t = some (.struct fs)) (hp : P.stoodInHeld t = false) (h : (Op.eqFields d xs ys fs.toList).run P w = .ok r w) : (Op.equalIn (d + 1) t (.agg xs) (.agg ys)).run P w = .ok r w := by
 have hf : P.fieldsOf t = fs := by simp [Program.fieldsOf, hu]
 rw [run_equalIn_struct (P := P) w d t xs ys (by rw [hf]; exact hu) hp, hf]
 exact h
end
end Go.Proofs.YtcpbhklaffgokaaW.PrintWords
