import Derived.Test.YtcpbhklaffgokaaH15
namespace Go.Proofs.Ytcpbhklaffgokaa.Q
open Go.RowKit Go.Proofs.YtcpbhklaffgokaaW.PrintWords Go.Proofs.YtcpbhklaffgokaaW.PrintLast Go.Proofs.YtcpbhklaffgokaaW.PrintMore
set_option linter.unusedVariables false
set_option linter.unusedSimpArgs false
theorem results_cell1 {P : Program} {fn : Func} {p : Tmp} {ty e : TypeId} (h : fn.results = #[.cell p ty]) (tmps : Array Value) (w : World) (g : Nat) (v : Value) (hp : tmps.getD p undef = .pointer (some ⟨g, 0, none⟩)) (hc : w.cell? ⟨g, 0, none⟩ = some v) (hu : P.underlying ty = some (.slice e)) : (results fn tmps).run P w = .ok v w := by
  have hp' : tmps[p]?.getD undef = .pointer (some ⟨g, 0, none⟩) := by simpa using hp
  simp [results, h, hp', asAddr, loadVar, isAgg, run_underlying hu, hc]
/-- what has been found by lists of fewer than k -/
def fewK (can : List Int → Bool) (n : Nat) : Nat → List (List Int)
  | 0 => []
  | k + 1 => if (fewK can n k).length = 0 then fromF can n k [] 0 else fewK can n k
def fewestF (lots : List S46) (samples : List Int) (spread : Int) (labs : List S75) : List (List Int) := fewK (fun l => canF lots samples spread labs (offOf l)) labs.length (labs.length + 1)
theorem fewK_stays (can : List Int → Bool) (n k : Nat) (h : (fewK can n k).length ≠ 0) : ∀ m, k ≤ m → fewK can n m = fewK can n k := by
  intro m hm
  induction m with
  | zero => rw [show k = 0 by omega]
  | succ m ih =>
    by_cases e : k = m + 1
    · rw [e]
    · have := ih (by omega)
      simp only [fewK]
      rw [this, if_neg h]
theorem fewK_length (can : List Int → Bool) (n : Nat) (hn : n ≤ 6) : ∀ k, k ≤ 7 → (fewK can n k).length ≤ 46656 := by
  intro k
  induction k with
  | zero => intro _; simp [fewK]
  | succ k ih =>
    intro hk
    simp only [fewK]
    split
    · have h1 := fromF_length can n hn k [] 0
      have : (6 : Nat) ^ k ≤ 6 ^ 6 := Nat.pow_le_pow_right (by omega) (by omega)
      omega
    · exact ih (by omega)
def FewPost (w0 : World) (jb mb : Nat) (A0 : Option Addr) (c0 : Nat) (lots : List S46) (A1 : Option Addr) (c1 : Nat) (samples : List Int) (spread : Int) (A3 : Option Addr) (c3 : Nat) (labs : List S75) (e : Ending) (W' : World) : Prop :=
  ∃ v, e = .returned v ∧ JW w0 jb mb A0 c0 lots A1 c1 samples spread A3 c3 labs W' ∧ Kd.R kll 23 W' w0.heap.size (fun _ => True) v (fewestF lots samples spread labs)
theorem FS.put {w0 : World} {jb mb g1 g2 g3 g4 : Nat} {A0 : Option Addr} {c0 : Nat} {lots : List S46} {A1 : Option Addr} {c1 : Nat} {samples : List Int} {spread : Int} {A3 : Option Addr} {c3 : Nat} {labs : List S75} {vo : Value} {outs : List (List Int)} {ok : Nat → Prop} {W : World} (h : FS w0 jb mb g1 g2 g3 g4 A0 c0 lots A1 c1 samples spread A3 c3 labs vo outs ok W) {u : Value} : JW w0 jb mb A0 c0 lots A1 c1 samples spread A3 c3 labs (W.setCell ⟨g2, 0, none⟩ u) ∧ Kd.R kll 23 (W.setCell ⟨g2, 0, none⟩ u) w0.heap.size ok vo outs := by
  obtain ⟨es, c, hm, _⟩ := h.jw.map
  exact ⟨h.jw.change (below_set h.jw.hb h.l2) (Below.heap_setCell _ _ _ _ (blk_ne h.jw.blk h.b2 (by decide))) (Below.heap_setCell _ _ _ _ (fun e => ne_map h.b2 hm e.symm)), R_cellT h.out h.b2 (by decide)⟩
set_option maxHeartbeats 8000000 in
set_option maxRecDepth 100000 in
theorem fewest_any (w0 : World) (jb mb : Nat) (A0 : Option Addr) (c0 : Nat) (lots : List S46) (A1 : Option Addr) (c1 : Nat) (samples : List Int) (spread : Int) (A3 : Option Addr) (c3 : Nat) (labs : List S75) (W : World) (hj : JW w0 jb mb A0 c0 lots A1 c1 samples spread A3 c3 labs W) (hok : RoundOk lots samples spread labs) :
    Calls Try.prog 58 #[.pointer (some ⟨jb, 0, none⟩)] W (FewPost w0 jb mb A0 c0 lots A1 c1 samples spread A3 c3 labs) := by
  have b6 := hok.b6
  have HOk := Aside0.mk hok
  have HJ := Aside0.mk hj
  clear hj hok
  have t1 := blk_new W (.cells #[.pointer (some ⟨jb, 0, none⟩)] 83)
  have t2 := blk_new (W.alloc (.cells #[.pointer (some ⟨jb, 0, none⟩)] 83)) (.cells #[.slice none 0 0] 51)
  have t3 := blk_new ((W.alloc (.cells #[.pointer (some ⟨jb, 0, none⟩)] 83)).alloc (.cells #[.slice none 0 0] 51)) (.cells #[.func (.func 52) #[.pointer (some ⟨jb, 0, none⟩)] #[]] 88)
  have t4 := blk_new (((W.alloc (.cells #[.pointer (some ⟨jb, 0, none⟩)] 83)).alloc (.cells #[.slice none 0 0] 51)).alloc (.cells #[.func (.func 52) #[.pointer (some ⟨jb, 0, none⟩)] #[]] 88)) (.cells #[.func (.func 78) #[] #[.pointer (some ⟨W.heap.size + 1 + 1, 0, none⟩), .pointer (some ⟨W.heap.size + 1, 0, none⟩), .pointer (some ⟨W.heap.size, 0, none⟩), .pointer (some ⟨W.heap.size + 1 + 1 + 1, 0, none⟩)]] 114)
  simp only [World.size_alloc] at t1 t2 t3 t4
  have HFS : FS w0 jb mb W.heap.size (W.heap.size + 1) (W.heap.size + 1 + 1) (W.heap.size + 1 + 1 + 1) A0 c0 lots A1 c1 samples spread A3 c3 labs (.slice none 0 0) [] (fun _ => True) ((((W.alloc (.cells #[.pointer (some ⟨jb, 0, none⟩)] 83)).alloc (.cells #[.slice none 0 0] 51)).alloc (.cells #[.func (.func 52) #[.pointer (some ⟨jb, 0, none⟩)] #[]] 88)).alloc (.cells #[.func (.func 78) #[] #[.pointer (some ⟨W.heap.size + 1 + 1, 0, none⟩), .pointer (some ⟨W.heap.size + 1, 0, none⟩), .pointer (some ⟨W.heap.size, 0, none⟩), .pointer (some ⟨W.heap.size + 1 + 1 + 1, 0, none⟩)]] 114)) :=
    ⟨HJ.out.step (below_alloc (below_alloc (below_alloc (below_alloc (Below.refl _ _) _) _) _) _), blk_alloc (blk_alloc (blk_alloc t1 _) _) _, blk_alloc (blk_alloc t2 _) _, blk_alloc t3 _, t4, Kd.R_nil _ _ _ _ _, by have := HJ.out.hb.size; omega⟩
  replace HFS := Aside0.mk HFS
  clear t1 t2 t3 t4
  go_enter Try.func58, Try.ntmps58
  go_wp2
  generalize (((W.alloc (.cells #[.pointer (some ⟨jb, 0, none⟩)] 83)).alloc (.cells #[.slice none 0 0] 51)).alloc (.cells #[.func (.func 52) #[.pointer (some ⟨jb, 0, none⟩)] #[]] 88)).alloc (.cells #[.func (.func 78) #[] #[.pointer (some ⟨W.heap.size + 1 + 1, 0, none⟩), .pointer (some ⟨W.heap.size + 1, 0, none⟩), .pointer (some ⟨W.heap.size, 0, none⟩), .pointer (some ⟨W.heap.size + 1 + 1 + 1, 0, none⟩)]] 114) = w1 at HFS ⊢
  generalize W.heap.size + 1 + 1 + 1 = g4 at HFS ⊢
  generalize W.heap.size + 1 + 1 = g3 at HFS ⊢
  generalize W.heap.size + 1 = g2 at HFS ⊢
  generalize W.heap.size = g1 at HFS ⊢
  clear HJ
  go_loopw [5] (fun q wr => ∃ (k : Int) (vk : Value), 0 ≤ k ∧ k ≤ labs.length + 1 ∧ q = .int .i64 k ∧ Aside0 (FS w0 jb mb g1 g2 g3 g4 A0 c0 lots A1 c1 samples spread A3 c3 labs vk (fewK (fun l => canF lots samples spread labs (offOf l)) labs.length k.toNat) (fun _ => True) wr)) (fun q _ => labs.length + 1 - (intOf q).toNat)
  case atStart => exact ⟨0, _, by omega, by omega, rfl, HFS⟩
  case round =>
    obtain ⟨k, vk, hk0, hk1, rfl, HFS⟩ := hrel
    obtain ⟨Ak, nk, ck, hv⟩ : ∃ A n c, vk = .slice A n c ∧ n = (fewK (fun l => canF lots samples spread labs (offOf l)) labs.length k.toNat).length := by obtain ⟨A, c, h⟩ := Kd.R_slice HFS.out.out; exact ⟨A, _, c, h, rfl⟩
    obtain ⟨rfl, hnk⟩ := hv
    replace hnk := Aside0.mk hnk
    have e1 := (blk_cell HFS.out.b1 0).trans rfl
    have e2 := (blk_cell HFS.out.b2 0).trans rfl
    have e4 := (blk_cell HFS.out.b4 0).trans rfl
    have ej := HFS.out.jw.at.cells.2.2.2.1
    by_cases hlt : k ≤ labs.length
    · by_cases hz : nk = 0
      · have hz0 : ((nk : Int) == 0) = true := by rw [beq_iff_eq]; omega
        have hst : fewK (fun l => canF lots samples spread labs (offOf l)) labs.length (k + 1).toNat = fromF (fun l => canF lots samples spread labs (offOf l)) labs.length k.toNat [] 0 := by rw [show (k + 1).toNat = k.toNat + 1 by omega]; simp only [fewK]; rw [if_pos (by have := hnk.out; omega)]
        have hnil : fewK (fun l => canF lots samples spread labs (offOf l)) labs.length k.toNat = [] := List.eq_nil_of_length_eq_zero (by have := hnk.out; omega)
        rw [hnil] at HFS
        replace hst := Aside0.mk hst
        clear hnil hz
        have HC := Aside0.mk (from_any w0 jb mb g1 g2 g3 g4 A0 c0 lots A1 c1 samples spread A3 c3 labs HOk.out k.toNat (.slice none 0 0) [] (.slice Ak nk ck) [] 0 k 0 wr (fun _ => True) (by omega) rfl (by omega) (by simp; omega) (by have : (6 : Nat) ^ k.toNat ≤ 6 ^ 6 := Nat.pow_le_pow_right (by omega) (by omega); simp; omega) (fun _ _ => trivial) (fun _ _ => by simp [Value.ownBlock]) HFS.out (Kd.R_nil _ _ _ _ _))
        go_wp2_with (go_at_call 78; refine Aside0.out ?_)
        refine ⟨?_⟩
        refine HC.out.mono ?_
        rintro e w2 ⟨rfl, v2, hfs, _, _, _⟩
        replace HFS := Aside0.mk hfs
        clear hfs
        go_wp2
        exact ⟨⟨k + 1, v2, by omega, by omega, rfl, ⟨by rw [hst.out]; exact HFS.out⟩⟩, by simp only [intOf]; omega⟩
      · have hz0 : ((nk : Int) == 0) = false := by rw [beq_eq_false_iff_ne]; omega
        have HE : Aside0 (fewK (fun l => canF lots samples spread labs (offOf l)) labs.length (labs.length + 1) = fewK (fun l => canF lots samples spread labs (offOf l)) labs.length k.toNat) := ⟨fewK_stays _ _ _ (by have := hnk.out; omega) _ (by omega)⟩
        have HFin : Aside0 (FewPost w0 jb mb A0 c0 lots A1 c1 samples spread A3 c3 labs (.returned (.slice Ak nk ck)) (wr.setCell ⟨g2, 0, none⟩ (.slice Ak nk ck))) := ⟨_, rfl, HFS.out.put.1, by unfold fewestF; rw [HE.out]; exact HFS.out.put.2⟩
        have y2 := blk_frozen HFS.out.b2 0
        have e5 : ∀ u, (wr.setCell ⟨g2, 0, none⟩ u).cell? ⟨g2, 0, none⟩ = some u := fun u => (blk_cell (blk_put HFS.out.b2 0 u rfl) 0).trans rfl
        go_wp2
        (try simp only [Exit.inBlock, Exit.then])
        refine bodyPost_ret (results_cell1 rfl _ _ g2 (.slice Ak nk ck) rfl (e5 _) Try.underlying51) rfl ?_
        exact HFin.out
    · have HE : Aside0 (fewK (fun l => canF lots samples spread labs (offOf l)) labs.length (labs.length + 1) = fewK (fun l => canF lots samples spread labs (offOf l)) labs.length k.toNat) := ⟨by rw [show k.toNat = labs.length + 1 by omega]⟩
      have HFin : Aside0 (FewPost w0 jb mb A0 c0 lots A1 c1 samples spread A3 c3 labs (.returned (.slice Ak nk ck)) (wr.setCell ⟨g2, 0, none⟩ (.slice Ak nk ck))) := ⟨_, rfl, HFS.out.put.1, by unfold fewestF; rw [HE.out]; exact HFS.out.put.2⟩
      have y2 := blk_frozen HFS.out.b2 0
      have e5 : ∀ u, (wr.setCell ⟨g2, 0, none⟩ u).cell? ⟨g2, 0, none⟩ = some u := fun u => (blk_cell (blk_put HFS.out.b2 0 u rfl) 0).trans rfl
      go_wp2
      (try simp only [Exit.inBlock, Exit.then])
      refine bodyPost_ret (results_cell1 rfl _ _ g2 (.slice Ak nk ck) rfl (e5 _) Try.underlying51) rfl ?_
      exact HFin.out
end Go.Proofs.Ytcpbhklaffgokaa.Q
