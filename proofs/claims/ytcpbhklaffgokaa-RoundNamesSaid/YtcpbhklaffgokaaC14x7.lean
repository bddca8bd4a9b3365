import Derived.Lib.SliceRun
import Derived.Test.YtcpbhklaffgokaaC14x6
namespace Go.Proofs.Ytcpbhklaffgokaa.Q
open Go.RowKit Go.Proofs.YtcpbhklaffgokaaW.PrintWords Go.Proofs.YtcpbhklaffgokaaW.PrintLast Go.Proofs.YtcpbhklaffgokaaW.PrintMore
set_option linter.unusedVariables false
set_option linter.unusedSimpArgs false
set_option maxHeartbeats 4000000 in
set_option maxRecDepth 100000 in
theorem clone46 (ad : Addr) (c : Nat) (xs : List S46) (w : World) (hr : Kd.C k46 w (some ad) xs.length xs) (hlen : xs.length < 1000000) :
  Calls Try.prog 73 #[.slice (some ad) xs.length c] w fun e w' => ∃ v : Value, e = .returned v ∧ Kd.R k46 46 w' w.heap.size (fun _ => True) v xs ∧ Below w.heap.size w w' := by
 have HR := Aside0.mk hr
 have HB := Aside0.mk (Below.refl w.heap.size w)
 have HN := Aside0.mk hlen
 clear hr hlen
 have hq := fun (w' : World) => Lib.run_eql_slice_nil (P := Try.prog) w' 31 46 (some ad) xs.length c 0 0 Try.underlying31
 go_enter Try.func73, Try.ntmps73
 go_wp2_with (first
  | ((with_reducible refine gate_dst (N := 5) rfl ?_); refine Kd.R_lit k46 _ 46 ?hg (N := 5) ?hd (xs := ([] : List S46)) (inner := []) (ok := fun _ => True) (okp := fun _ => True) ?hr ?hp (fun _ hk => hk) trivial (Below.refl _ _) (Nat.le_refl _) (by simp) ?_; (case hd => rfl); (case hg => rfl); (case hr => first | (go_simp; done) | (go_simp; rfl)); (case hp => exact (Reps.none _ _)); intro v1 w3 ho hb hg_ hnew_; clear hg_ hnew_; have HO := Aside0.mk ho; have HB := Aside0.mk (below_step HB.out hb); clear hb ho)
  | ((with_reducible refine gate_builtin (b := .append) (xs := #[.tmp 5, .tmp 6]) rfl ?_); at_builtin; refine Aside0.out ?_))
 refine ⟨?_⟩
 refine Kd.R_append_rows k46 (Rr := k46.K _) (w0 := w) w.heap.size rfl (.tmp 5) (.tmp 6) 31 46 (.agg #[(.int .i64 0), (.int .i64 0)]) 16 rfl Try.underlying31 info46 rfl (by decide) (by omega) v1 [] xs _ _ _ (fun _ => True) (fun _ => False) rfl rfl HO.out (Kd.C_below HR.out HB.out) ?aK (fun _ h => h.elim) (fun _ _ => trivial) HB.out HB.out.size ?aL ?_
 case aL => have := HN.out; simp only [List.length_nil]; omega
 case aK => intro x cs h; obtain rfl := k46_open h; exact k46_mkM _ _ _ _
 intro v2 w5 ho hb hg hat
 have HO := Aside0.mk ho
 have HB := Aside0.mk hb
 clear ho hb hg hat
 go_wp2
 go_ret
 exact ⟨_, rfl, HO.out, HB.out⟩
set_option maxHeartbeats 4000000 in
set_option maxRecDepth 100000 in
theorem clone3 (ad : Addr) (c : Nat) (xs : List Int) (w : World) (hr : Kd.C (Kd.int .i64) w (some ad) xs.length xs) (hlen : xs.length < 1000000) :
  Calls Try.prog 79 #[.slice (some ad) xs.length c] w fun e w' => ∃ v : Value, e = .returned v ∧ Kd.R (Kd.int .i64) 3 w' w.heap.size (fun _ => True) v xs ∧ Below w.heap.size w w' := by
 have HR := Aside0.mk hr
 have HB := Aside0.mk (Below.refl w.heap.size w)
 have HN := Aside0.mk hlen
 clear hr hlen
 have hq := fun (w' : World) => Lib.run_eql_slice_nil (P := Try.prog) w' 23 3 (some ad) xs.length c 0 0 Try.underlying23
 go_enter Try.func79, Try.ntmps79
 go_wp2_with (first
  | ((with_reducible refine gate_dst (N := 5) rfl ?_); refine Kd.R_lit (Kd.int .i64) _ 3 ?hg (N := 5) ?hd (xs := ([] : List Int)) (inner := []) (ok := fun _ => True) (okp := fun _ => True) ?hr ?hp (fun _ hk => hk) trivial (Below.refl _ _) (Nat.le_refl _) (by simp) ?_; (case hd => rfl); (case hg => rfl); (case hr => first | (go_simp; done) | (go_simp; rfl)); (case hp => exact (Reps.none _ _)); intro v1 w3 ho hb hg_ hnew_; clear hg_ hnew_; have HO := Aside0.mk ho; have HB := Aside0.mk (below_step HB.out hb); clear hb ho)
  | ((with_reducible refine gate_builtin (b := .append) (xs := #[.tmp 5, .tmp 6]) rfl ?_); at_builtin; refine Aside0.out ?_))
 refine ⟨?_⟩
 refine Kd.R_append_rows (Kd.int .i64) (Rr := (Kd.int .i64).K _) (w0 := w) w.heap.size rfl (.tmp 5) (.tmp 6) 23 3 (.int .i64 0) 8 rfl Try.underlying23 info3 rfl (by decide) (by omega) v1 [] xs _ _ _ (fun _ => True) (fun _ => False) rfl rfl HO.out (Kd.C_below HR.out HB.out) ?aK (fun _ h => h.elim) (fun _ _ => trivial) HB.out HB.out.size ?aL ?_
 case aL => have := HN.out; simp only [List.length_nil]; omega
 case aK => exact fun _ _ h => h
 intro v2 w5 ho hb hg hat
 have HO := Aside0.mk ho
 have HB := Aside0.mk hb
 clear ho hb hg hat
 go_wp2
 go_ret
 exact ⟨_, rfl, HO.out, HB.out⟩
theorem clone3_nil (w : World) :
  Calls Try.prog 79 #[.slice none 0 0] w fun e w' => e = .returned (.slice none 0 0) ∧ w = w' := by
 go_enter Try.func79, Try.ntmps79
 have hq : (binOp .eql 23 (.slice none 0 0) (.slice none 0 0)).run Try.prog w = .ok (.bool true) w := (Lib.run_eql_slice_nil (P := Try.prog) w 23 3 none 0 0 0 0 Try.underlying23).trans rfl
 go_wp2
 go_ret
 exact ⟨rfl, rfl⟩
end Go.Proofs.Ytcpbhklaffgokaa.Q
