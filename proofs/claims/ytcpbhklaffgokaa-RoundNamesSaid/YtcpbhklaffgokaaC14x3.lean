import Derived.Carry
import Derived.ChangeOld
import Derived.ChangeSame
import Derived.Deep.Fields
import Derived.Deep.Slices
import Derived.Lib.SmallJoins
import Derived.OpenShut
import Derived.ProofKit
import Derived.ShutString
import Derived.SizedLaws
import Derived.Test.YtcpbhklaffgokaaC14x2
import Derived.Test.YtcpbhklaffgokaaRows
namespace Go.Proofs.Ytcpbhklaffgokaa.Q
open Go.ChangeShapes Go.WideShapes Go.ChangeAt Go.RowKit Go.Deep Go.Joins Go.Proofs.YtcpbhklaffgokaaW.PrintWords Go.Proofs.YtcpbhklaffgokaaW.PrintLast Go.Proofs.YtcpbhklaffgokaaW.PrintMore
set_option linter.unusedVariables false
set_option linter.unusedSimpArgs false
section
variable {H : Type} {enc : TypeId × Value → H} {W : World}
instance : Inhabited S44 := ⟨z44⟩
instance : Inhabited S62 := ⟨z62⟩
structure In26 (W : World) (v : Value) (A0 : Option Addr) (c0 : Nat) (lots : List S44) (A1 : Option Addr) (c1 : Nat) (samples : List Int) (spread : Int) (A3 : Option Addr) (c3 : Nat) (labs : List S62) : Prop where
 eq : v = .agg #[.slice A0 lots.length c0, .slice A1 samples.length c1, .int .i64 spread, .slice A3 labs.length c3]
 r0 : Kd.C k44 W A0 lots.length lots
 h0 : lots.length ≤ c0
 r1 : (Kd.int .i64).C W A1 samples.length samples
 h1 : samples.length ≤ c1
 r3 : Kd.C k62 W A3 labs.length labs
 h3 : labs.length ≤ c3
 a : lots.length ≤ 9223372036854775807
 b : samples.length ≤ 9223372036854775807
 c : labs.length ≤ 9223372036854775807
 d : ∀ x ∈ labs, x.f1.length ≤ 9223372036854775807
end
theorem own0 : ownKnob Try.prog.godebug = none := by kernel_rfl
end Go.Proofs.Ytcpbhklaffgokaa.Q
