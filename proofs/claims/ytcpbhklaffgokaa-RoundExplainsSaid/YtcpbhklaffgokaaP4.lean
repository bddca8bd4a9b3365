import Derived.Test.YtcpbhklaffgokaaP3
namespace Go.Proofs.Ytcpbhklaffgokaa.Q
open Go.RowKit Go.Proofs.YtcpbhklaffgokaaW.PrintWords Go.Proofs.YtcpbhklaffgokaaW.PrintLast Go.Proofs.YtcpbhklaffgokaaW.PrintMore
set_option linter.unusedVariables false
set_option linter.unusedSimpArgs false
noncomputable def tr (p : Prop) : Bool := @decide p (Classical.propDecidable p)
theorem tr_iff {p : Prop} : tr p = true ↔ p := by
  unfold tr
  exact @decide_eq_true_iff p (Classical.propDecidable p)
theorem tr_yes {p : Prop} (h : p) : tr p = true := tr_iff.2 h
theorem tr_no {p : Prop} (h : ¬ p) : tr p = false := by
  cases e : tr p
  · rfl
  · exact absurd (tr_iff.1 e) h
theorem tr_congr {p q : Prop} (h : p ↔ q) : tr p = tr q := by rw [propext h]
theorem tr_bool (b : Bool) : tr (b = true) = b := by
  cases b
  · exact tr_no (by decide)
  · exact tr_yes rfl
theorem bool_ext {a b : Bool} (h : a = true ↔ b = true) : a = b := Bool.eq_iff_iff.2 h
theorem Has_ev (l : List Int) (x : Int) (hl : l.length ≤ 9223372036854775807) : Ev (fun k => tensileref08_Has.f k l x) (l.contains x) := by
  have key : ∀ d i : Nat, l.length - i = d → Ev (fun k => tensileref08_Has.l0 k l x (i : Int)) ((l.drop i).contains x) := by
    intro d
    induction d with
    | zero =>
      intro i hd
      rw [drop_end l i (by omega)]
      refine Ev.step (fun k => by simp only [tensileref08_Has.l0]; rw [if_neg (by omega)]) ?_
      exact Ev.now _
    | succ d ih =>
      intro i hd
      have hlt : i < l.length := by omega
      rw [rd_drop l i hlt]
      by_cases h : rd l (i : Int) = x
      · refine Ev.step (fun k => by simp only [tensileref08_Has.l0]; rw [if_pos (by omega), if_pos (by omega), if_pos h]) ?_
        have : (rd l (i : Int) :: l.drop (i + 1)).contains x = true := by simp [h]
        rw [this]
        exact Ev.now _
      · refine Ev.step (fun k => by simp only [tensileref08_Has.l0]; rw [if_pos (by omega), if_pos (by omega), if_neg h, wr1 i _ hlt hl]) ?_
        have : (rd l (i : Int) :: l.drop (i + 1)).contains x = (l.drop (i + 1)).contains x := by
          refine bool_ext ?_
          simp only [List.contains_iff_mem, List.mem_cons]
          constructor
          · rintro (h' | h')
            · exact absurd h'.symm h
            · exact h'
          · exact .inr
        rw [this]
        exact ih (i + 1) (by omega)
  have := key l.length 0 (by omega)
  rwa [List.drop_zero] at this
theorem risingK_split (n : Nat) (l : List Int) : ∀ m, risingK n l m = true ↔ ∀ j, j < m → okAt n l (j : Int) = true := by
  intro m
  induction m with
  | zero => simp [risingK]
  | succ m ih =>
    simp only [risingK, Bool.and_eq_true, ih]
    constructor
    · rintro ⟨h1, h2⟩ j hj
      by_cases e : j = m
      · subst e; exact h2
      · exact h1 j (by omega)
    · intro h
      exact ⟨fun j hj => h j (by omega), h m (by omega)⟩
theorem rising_iff (n : Nat) (l : List Int) : risingB n l = true ↔ ∀ j, j < l.length → okAt n l (j : Int) = true := risingK_split n l l.length
section
variable (lots : List S44) (samples : List Int) (spread : Int) (labs : List S62)
def inB (v : Int) (r : S46) : Bool := decide (r.f0 ≤ v) && decide (v ≤ r.f1)
theorem inB_iff (v : Int) (r : S46) : inB v r = true ↔ inR v r := by simp [inB, inR]
theorem Agrees_l0 {m : Nat} (l : List Int) (lab d i v : Int) (hl : l.length ≤ 9223372036854775807) (hc : labs.length ≤ 9223372036854775807) (hi0 : 0 ≤ i) (hi : i < m) (hd0 : -2001 ≤ d) (hd1 : d ≤ 2001) (hk : ∀ x ∈ labs, LabOk m (m75 x)) :
    ∀ t j : Nat, labs.length - j = t → Ev (fun k => tensileref08_Agrees.l0 k l lab d i v (j : Int) lots samples spread labs) ((readsFrom (offOf l) lab d i j ((labs.drop j).map m75)).all (inB v)) := by
  intro t
  induction t with
  | zero =>
    intro j hd
    rw [drop_end labs j (by omega)]
    refine Ev.step (fun k => by simp only [tensileref08_Agrees.l0]; rw [if_neg (by omega)]) ?_
    exact Ev.now _
  | succ t ih =>
    intro j hd
    have hlt : j < labs.length := by omega
    have hdr := rd62_drop labs j hlt
    have hx := hk _ (mem_drop0 hdr)
    have hnext := ih (j + 1) (by omega)
    rw [← wr1 j _ hlt hc] at hnext
    rw [hdr, List.map_cons]
    generalize hxe : rd_T62 labs (j : Int) = x at hx ⊢
    obtain ⟨h0, h1, h2, h3⟩ := hx
    change 0 ≤ x.f0 at h0
    change x.f0 ≤ 100 at h1
    change x.f1.length = m at h2
    change ∀ n ∈ x.f1, -1 ≤ n ∧ n ≤ 1000 at h3
    have hr : -1 ≤ rd x.f1 i ∧ rd x.f1 i ≤ 1000 := by
      refine h3 _ ?_
      unfold rd
      rw [List.getD_eq_getElem?_getD, List.getElem?_eq_getElem (show i.toNat < x.f1.length by omega)]
      exact List.getElem_mem _
    have hrl : rdL (m75 x) i = rd x.f1 i := rfl
    have e0 : ∀ q : Bool, readsFrom (offOf l) lab d i j (m75 x :: (labs.drop (j + 1)).map m75) = if offOf l j = true ∨ rd x.f1 i = -1 then readsFrom (offOf l) lab d i (j + 1) ((labs.drop (j + 1)).map m75) else rangeOf lab d i j (m75 x) :: readsFrom (offOf l) lab d i (j + 1) ((labs.drop (j + 1)).map m75) := fun _ => rfl
    rw [e0 true]
    have hj : ∀ b : Bool, b = (decide (rd x.f1 i < 0) || offOf l j) → Ev (fun k => tensileref08_Agrees.j1 k l lab d i v (j : Int) (rd x.f1 i) b lots samples spread labs) ((if offOf l j = true ∨ rd x.f1 i = -1 then readsFrom (offOf l) lab d i (j + 1) ((labs.drop (j + 1)).map m75) else rangeOf lab d i j (m75 x) :: readsFrom (offOf l) lab d i (j + 1) ((labs.drop (j + 1)).map m75)).all (inB v)) := by
      intro b hb
      cases b with
      | true =>
        have : offOf l j = true ∨ rd x.f1 i = -1 := by
          have := hb.symm
          simp only [Bool.or_eq_true, decide_eq_true_eq] at this
          rcases this with h | h
          · right; omega
          · left; exact h
        rw [if_pos this]
        refine Ev.step (fun k => by simp only [tensileref08_Agrees.j1]; rw [if_pos trivial]) ?_
        exact hnext
      | false =>
        have hn : ¬ (offOf l j = true ∨ rd x.f1 i = -1) := by
          have := hb.symm
          simp only [Bool.or_eq_false_iff, decide_eq_false_iff_not] at this
          rintro (h | h)
          · rw [h] at this; cases this.2
          · omega
        rw [if_neg hn, List.all_cons]
        by_cases hlab : (j : Int) = lab
        · have hb2 : inB v (rangeOf lab d i j (m75 x)) = withinB v (wrap64 (wrap64 (rd x.f1 i - d) - x.f0)) (wrap64 (wrap64 (rd x.f1 i - d) + x.f0)) := by
            rw [wr (rd x.f1 i - d) (by omega) (by omega), wr _ (by omega) (by omega), wr _ (by omega) (by omega)]
            unfold rangeOf
            rw [if_pos hlab, hrl]
            rfl
          rw [hb2]
          cases hw : withinB v (wrap64 (wrap64 (rd x.f1 i - d) - x.f0)) (wrap64 (wrap64 (rd x.f1 i - d) + x.f0))
          · refine Ev.step (fun k => by simp only [tensileref08_Agrees.j1]; rw [if_neg (by decide), if_pos hlab, if_pos (by omega), if_pos (by omega), hxe, In_eq, hw, Option.bind_some, if_neg (by decide)]) ?_
            exact Ev.now _
          · refine Ev.step (fun k => by simp only [tensileref08_Agrees.j1]; rw [if_neg (by decide), if_pos hlab, if_pos (by omega), if_pos (by omega), hxe, In_eq, hw, Option.bind_some, if_pos rfl]) ?_
            rw [Bool.true_and]
            exact hnext
        · have hb2 : inB v (rangeOf lab d i j (m75 x)) = withinB v (wrap64 (rd x.f1 i - x.f0)) (wrap64 (rd x.f1 i + x.f0)) := by
            rw [wr _ (by omega) (by omega), wr _ (by omega) (by omega)]
            unfold rangeOf
            rw [if_neg hlab, hrl]
            rfl
          rw [hb2]
          cases hw : withinB v (wrap64 (rd x.f1 i - x.f0)) (wrap64 (rd x.f1 i + x.f0))
          · refine Ev.step (fun k => by simp only [tensileref08_Agrees.j1]; rw [if_neg (by decide), if_neg hlab, if_pos (by omega), if_pos (by omega), hxe, In_eq, hw, Option.bind_some, if_neg (by decide)]) ?_
            exact Ev.now _
          · refine Ev.step (fun k => by simp only [tensileref08_Agrees.j1]; rw [if_neg (by decide), if_neg hlab, if_pos (by omega), if_pos (by omega), hxe, In_eq, hw, Option.bind_some, if_pos rfl]) ?_
            rw [Bool.true_and]
            exact hnext
    by_cases hneg : rd x.f1 i < 0
    · refine Ev.step (fun k => by simp only [tensileref08_Agrees.l0]; rw [if_pos (by omega), if_pos (by omega), if_pos hi0, hxe, if_pos (by omega), if_pos hneg]) ?_
      exact hj true (by rw [decide_eq_true hneg, Bool.true_or])
    · refine Ev.step (fun k => by simp only [tensileref08_Agrees.l0]; rw [if_pos (by omega), if_pos (by omega), if_pos hi0, hxe, if_pos (by omega), if_neg hneg]) ?_
      refine Ev.bind (Has_ev l (j : Int) hl) (hj _ ?_)
      rw [decide_eq_false hneg, Bool.false_or]
      rfl
theorem Agrees_ev {m : Nat} (l : List Int) (lab d i v : Int) (hl : l.length ≤ 9223372036854775807) (hc : labs.length ≤ 9223372036854775807) (hi0 : 0 ≤ i) (hi : i < m) (hd0 : -2001 ≤ d) (hd1 : d ≤ 2001) (hk : ∀ x ∈ labs, LabOk m (m75 x)) (hv0 : -1000000 ≤ v) (hv1 : v ≤ 1000000) :
    Ev (fun k => tensileref08_Agrees.f k lots samples spread labs l lab d i v) (tr (inR v (sampR (labs.map m75) (offOf l) lab d i))) := by
  have h := Agrees_l0 lots samples spread labs l lab d i v hl hc hi0 hi hd0 hd1 hk labs.length 0 (by omega)
  rw [List.drop_zero] at h
  have e : (readsFrom (offOf l) lab d i 0 (labs.map m75)).all (inB v) = tr (inR v (sampR (labs.map m75) (offOf l) lab d i)) := by
    refine bool_ext ?_
    rw [tr_iff, List.all_eq_true]
    unfold sampR
    rw [inR_fold]
    constructor
    · intro h
      exact ⟨⟨by show (-1073741824 : Int) ≤ v; omega, by show v ≤ (1073741824 : Int); omega⟩, fun r hr => (inB_iff v r).1 (h r hr)⟩
    · rintro ⟨_, h⟩ r hr
      exact (inB_iff v r).2 (h r hr)
  rw [e] at h
  exact h
theorem Near_ev {m : Nat} (l : List Int) (lab d i v : Int) (hl : l.length ≤ 9223372036854775807) (hc : labs.length ≤ 9223372036854775807) (hi0 : 0 ≤ i) (hi : i < m) (hd0 : -2001 ≤ d) (hd1 : d ≤ 2001) (hk : ∀ x ∈ labs, LabOk m (m75 x)) (hv0 : -10000 ≤ v) (hv1 : v ≤ 10000) (hs0 : 0 ≤ spread) (hs1 : spread ≤ 100) :
    Ev (fun k => tensileref08_Near.f k lots samples spread labs l lab d i v) (tr (∃ u, inR u (sampR (labs.map m75) (offOf l) lab d i) ∧ u - spread ≤ v ∧ v ≤ u + spread)) := by
  have hw1 : wrap64 (v + spread) = v + spread := wr _ (by omega) (by omega)
  have hw0 : wrap64 (v - spread) = v - spread := wr _ (by omega) (by omega)
  have key : ∀ (t : Nat) (u : Int), v - spread ≤ u → (v + spread + 1 - u).toNat = t → u ≤ v + spread + 1 → Ev (fun k => tensileref08_Near.l0 k l lab d i v u lots samples spread labs) (tr (∃ u', u ≤ u' ∧ u' ≤ v + spread ∧ inR u' (sampR (labs.map m75) (offOf l) lab d i))) := by
    intro t
    induction t with
    | zero =>
      intro u hu0 ht hu
      rw [tr_no (by rintro ⟨u', h1, h2, _⟩; omega)]
      refine Ev.step (fun k => by simp only [tensileref08_Near.l0]; rw [hw1, if_neg (by omega)]) ?_
      exact Ev.now _
    | succ t ih =>
      intro u hu0 ht hu
      have ha := Agrees_ev lots samples spread labs l lab d i u hl hc hi0 hi hd0 hd1 hk (by omega) (by omega)
      refine Ev.step (fun k => by simp only [tensileref08_Near.l0]; rw [hw1, if_pos (by omega)]) ?_
      refine Ev.bind ha ?_
      cases hb : tr (inR u (sampR (labs.map m75) (offOf l) lab d i))
      · refine Ev.congr (fun k => by rw [if_neg (by decide), wr _ (by omega) (by omega)]) ?_
        have hno : ¬ inR u (sampR (labs.map m75) (offOf l) lab d i) := fun h => by rw [tr_yes h] at hb; cases hb
        rw [tr_congr (q := ∃ u', u + 1 ≤ u' ∧ u' ≤ v + spread ∧ inR u' (sampR (labs.map m75) (offOf l) lab d i))]
        · exact ih (u + 1) (by omega) (by omega) (by omega)
        · constructor
          · rintro ⟨u', h1, h2, h3⟩
            by_cases e : u' = u
            · subst e; exact absurd h3 hno
            · exact ⟨u', by omega, h2, h3⟩
          · rintro ⟨u', h1, h2, h3⟩
            exact ⟨u', by omega, h2, h3⟩
      · rw [tr_yes ⟨u, Int.le_refl _, by omega, tr_iff.1 hb⟩]
        refine Ev.congr (fun k => by rw [if_pos rfl]) ?_
        exact Ev.now _
  have h := key _ (v - spread) (Int.le_refl _) rfl (by omega)
  unfold tensileref08_Near.f
  rw [hw0]
  rw [tr_congr (q := ∃ u', v - spread ≤ u' ∧ u' ≤ v + spread ∧ inR u' (sampR (labs.map m75) (offOf l) lab d i))]
  · exact h
  · constructor
    · rintro ⟨u, h1, h2, h3⟩; exact ⟨u, by omega, by omega, h1⟩
    · rintro ⟨u, h1, h2, h3⟩; exact ⟨u, h3, by omega, by omega⟩
theorem LotFits_ev (l : List Int) (lab d v : Int) (L : Nat) (hl : l.length ≤ 9223372036854775807) (hok : RoundOk (lots.map m46) samples spread (labs.map m75)) (hd0 : -2001 ≤ d) (hd1 : d ≤ 2001) (hv0 : -10000 ≤ v) (hv1 : v ≤ 10000) :
    Ev (fun k => tensileref08_LotFits.f k lots samples spread labs l lab d (L : Int) v) (tr (fitsP (labs.map m75) samples spread (offOf l) lab d L v)) := by
  have hc : labs.length ≤ 9223372036854775807 := by have := hok.b6; rw [List.length_map] at this; omega
  have hk : ∀ x ∈ labs, LabOk samples.length (m75 x) := fun x hx => hok.labs _ (List.mem_map_of_mem hx)
  have hs8 := hok.s8
  have key : ∀ (t i : Nat), samples.length - i = t → Ev (fun k => tensileref08_LotFits.l0 k l lab d (L : Int) v (i : Int) lots samples spread labs) (tr (∀ j, i ≤ j → j < samples.length → (samples.getD j 0).toNat = L → ∃ u, inR u (sampR (labs.map m75) (offOf l) lab d (j : Int)) ∧ u - spread ≤ v ∧ v ≤ u + spread)) := by
    intro t
    induction t with
    | zero =>
      intro i ht
      rw [tr_yes (fun j h1 h2 => by omega)]
      refine Ev.step (fun k => by simp only [tensileref08_LotFits.l0]; rw [if_neg (by omega)]) ?_
      exact Ev.now _
    | succ t ih =>
      intro i ht
      have hlt : i < samples.length := by omega
      have hnext := ih (i + 1) (by omega)
      rw [← wr1 i _ hlt (by omega)] at hnext
      have hrd : rd samples (i : Int) = samples.getD i 0 := by unfold rd; rw [Int.toNat_natCast]
      have hs := hok.smp (samples.getD i 0) (by rw [List.getD_eq_getElem?_getD, List.getElem?_eq_getElem hlt]; exact List.getElem_mem _)
      by_cases he : rd samples (i : Int) = (L : Int)
      · have hn := Near_ev lots samples spread labs (m := samples.length) l lab d (i : Int) v hl hc (by omega) (by omega) hd0 hd1 hk hv0 hv1 hok.sp0 hok.sp1
        refine Ev.step (fun k => by simp only [tensileref08_LotFits.l0]; rw [if_pos (by omega), if_pos (by omega), if_pos he]) ?_
        refine Ev.bind hn ?_
        cases hb : tr (∃ u, inR u (sampR (labs.map m75) (offOf l) lab d (i : Int)) ∧ u - spread ≤ v ∧ v ≤ u + spread)
        · rw [tr_no (fun h => by
            have := h i (Nat.le_refl _) hlt (by rw [hrd] at he; omega)
            rw [tr_yes this] at hb
            cases hb)]
          refine Ev.congr (fun k => by rw [if_neg (by decide)]) ?_
          exact Ev.now _
        · refine Ev.congr (fun k => by rw [if_pos rfl]) ?_
          rw [tr_congr]
          · exact hnext
          · constructor
            · intro h j h1 h2 h3; exact h j (by omega) h2 h3
            · intro h j h1 h2 h3
              by_cases e : j = i
              · subst e; exact tr_iff.1 hb
              · exact h j (by omega) h2 h3
      · refine Ev.step (fun k => by simp only [tensileref08_LotFits.l0]; rw [if_pos (by omega), if_pos (by omega), if_neg he]) ?_
        rw [tr_congr]
        · exact hnext
        · constructor
          · intro h j h1 h2 h3; exact h j (by omega) h2 h3
          · intro h j h1 h2 h3
            by_cases e : j = i
            · subst e; rw [hrd] at he; omega
            · exact h j (by omega) h2 h3
  have h := key _ 0 rfl
  unfold tensileref08_LotFits.f
  rw [tr_congr]
  · exact h
  · unfold fitsP
    exact ⟨fun h j _ h2 h3 => h j h2 h3, fun h j h2 h3 => h j (by omega) h2 h3⟩
/-- the values of a lot -/
def valsOf (p : Int → Bool) : Nat → Int → List Int
  | 0, _ => []
  | n + 1, v => if p v = true then v :: valsOf p n (v + 1) else valsOf p n (v + 1)
theorem mem_valsOf (p : Int → Bool) (u : Int) : ∀ (n : Nat) (v : Int), u ∈ valsOf p n v ↔ v ≤ u ∧ u < v + n ∧ p u = true := by
  intro n
  induction n with
  | zero => intro v; simp only [valsOf, List.not_mem_nil, false_iff]; omega
  | succ n ih =>
    intro v
    simp only [valsOf]
    by_cases h : p v = true
    · rw [if_pos h, List.mem_cons, ih]
      constructor
      · rintro (rfl | ⟨h1, h2, h3⟩)
        · exact ⟨Int.le_refl _, by omega, h⟩
        · exact ⟨by omega, by omega, h3⟩
      · rintro ⟨h1, h2, h3⟩
        by_cases e : u = v
        · exact .inl e
        · exact .inr ⟨by omega, by omega, h3⟩
    · rw [if_neg h, ih]
      constructor
      · rintro ⟨h1, h2, h3⟩
        exact ⟨by omega, by omega, h3⟩
      · rintro ⟨h1, h2, h3⟩
        have e : u ≠ v := fun e => by subst e; exact h h3
        exact ⟨by omega, by omega, h3⟩
theorem valsOf_length (p : Int → Bool) : ∀ (n : Nat) (v : Int), (valsOf p n v).length ≤ n := by
  intro n
  induction n with
  | zero => intro v; exact Nat.le_refl _
  | succ n ih =>
    intro v
    simp only [valsOf]
    have := ih (v + 1)
    split
    · simp only [List.length_cons]; omega
    · omega
noncomputable def lotV (o : Nat → Bool) (lab d : Int) (L : Nat) : List Int :=
  valsOf (fun v => tr (fitsP (labs.map m75) samples spread o lab d L v)) ((rd_T44 lots (L : Int)).f1 + 1 - (rd_T44 lots (L : Int)).f0).toNat (rd_T44 lots (L : Int)).f0
noncomputable def lotsV (o : Nat → Bool) (lab d : Int) : Nat → Nat → List (List Int)
  | 0, _ => []
  | n + 1, L => lotV lots samples spread labs o lab d L :: lotsV o lab d n (L + 1)
theorem getD46 (L : Nat) (h : L < lots.length) : (lots.map m46).getD L z46 = m46 (rd_T44 lots (L : Int)) := by
  rw [List.getD_eq_getElem?_getD, List.getElem?_map, rd_T44, Int.toNat_natCast, List.getD_eq_getElem?_getD, List.getElem?_eq_getElem h]
  rfl
theorem lot_ok (hok : RoundOk (lots.map m46) samples spread (labs.map m75)) (L : Nat) (h : L < lots.length) : 0 ≤ (rd_T44 lots (L : Int)).f0 ∧ (rd_T44 lots (L : Int)).f0 ≤ (rd_T44 lots (L : Int)).f1 ∧ (rd_T44 lots (L : Int)).f1 ≤ 1000 := by
  have hm : rd_T44 lots (L : Int) ∈ lots := by
    rw [rd_T44, Int.toNat_natCast, List.getD_eq_getElem?_getD, List.getElem?_eq_getElem h]
    exact List.getElem_mem _
  exact hok.lot _ (List.mem_map_of_mem hm)
theorem Lots_ev (l : List Int) (lab d : Int) (hl : l.length ≤ 9223372036854775807) (hok : RoundOk (lots.map m46) samples spread (labs.map m75)) (hd0 : -2001 ≤ d) (hd1 : d ≤ 2001) :
    Ev (fun k => tensileref08_Lots.f k lots samples spread labs l lab d) (lotsV lots samples spread labs (offOf l) lab d lots.length 0, (lotsV lots samples spread labs (offOf l) lab d lots.length 0).all fun x => decide (0 < x.length)) := by
  have h4 := hok.l4
  rw [List.length_map] at h4
  have key : ∀ (t L : Nat) (x10 : List (List Int)) (x11 : Bool), lots.length - L = t → L ≤ lots.length → x10.length = L →
      Ev (fun k => tensileref08_Lots.l0 k l lab d x10 x11 (L : Int) lots samples spread labs) (x10 ++ lotsV lots samples spread labs (offOf l) lab d t L, x11 && (lotsV lots samples spread labs (offOf l) lab d t L).all fun x => decide (0 < x.length)) := by
    intro t
    induction t with
    | zero =>
      intro L x10 x11 ht hL hx
      refine Ev.step (fun k => by simp only [tensileref08_Lots.l0]; rw [if_neg (by omega)]) ?_
      simp only [lotsV, List.append_nil, List.all_nil, Bool.and_true]
      exact Ev.now _
    | succ t ih =>
      intro L x10 x11 ht hL hx
      have hlt : L < lots.length := by omega
      obtain ⟨b0, b1, b2⟩ := lot_ok lots samples spread labs hok L hlt
      refine Ev.step (fun k => by simp only [tensileref08_Lots.l0]; rw [if_pos (by omega), if_pos (by omega)]) ?_
      have inner : ∀ (n : Nat) (v : Int) (x13 : List Int), (rd_T44 lots (L : Int)).f0 ≤ v → ((rd_T44 lots (L : Int)).f1 + 1 - v).toNat = n → v ≤ (rd_T44 lots (L : Int)).f1 + 1 → x13.length + n ≤ 2000 →
          Ev (fun k => tensileref08_Lots.l1 k l lab d x10 x11 (L : Int) x13 v lots samples spread labs) (x10 ++ (x13 ++ valsOf (fun v => tr (fitsP (labs.map m75) samples spread (offOf l) lab d L v)) n v) :: lotsV lots samples spread labs (offOf l) lab d t (L + 1), x11 && (decide (0 < (x13 ++ valsOf (fun v => tr (fitsP (labs.map m75) samples spread (offOf l) lab d L v)) n v).length) && (lotsV lots samples spread labs (offOf l) lab d t (L + 1)).all fun x => decide (0 < x.length))) := by
        intro n
        induction n with
        | zero =>
          intro v x13 hv0 hn hv hx13
          simp only [valsOf, List.append_nil]
          have hnext := ih (L + 1) (x10 ++ [x13]) (x11 && decide (0 < x13.length)) (by omega) (by omega) (by rw [List.length_append, hx]; rfl)
          rw [← wr1 L _ hlt (by omega)] at hnext
          refine Ev.step (fun k => by simp only [tensileref08_Lots.l1]; rw [if_pos (by omega), if_pos (by omega), if_neg (by omega), if_pos (by omega)]) ?_
          simp only [List.append_assoc, List.singleton_append, Bool.and_assoc] at hnext
          cases x11 with
          | true =>
            refine Ev.congr (fun k => by rw [Option.bind_some, if_pos rfl]) ?_
            have e : decide ((x13.length : Int) > 0) = decide (0 < x13.length) := by
              refine bool_ext ?_
              rw [decide_eq_true_eq, decide_eq_true_eq]
              omega
            rw [e]
            simpa using hnext
          | false =>
            refine Ev.congr (fun k => by rw [Option.bind_some, if_neg (by decide)]) ?_
            simpa using hnext
        | succ n ihn =>
          intro v x13 hv0 hn hv hx13
          have hf := LotFits_ev lots samples spread labs l lab d v L hl hok hd0 hd1 (by omega) (by omega)
          refine Ev.step (fun k => by simp only [tensileref08_Lots.l1]; rw [if_pos (by omega), if_pos (by omega), if_pos (by omega)]) ?_
          refine Ev.bind hf ?_
          obtain hb | hb : tr (fitsP (labs.map m75) samples spread (offOf l) lab d L v) = false ∨ tr (fitsP (labs.map m75) samples spread (offOf l) lab d L v) = true := by
            cases tr (fitsP (labs.map m75) samples spread (offOf l) lab d L v)
            · exact .inl rfl
            · exact .inr rfl
          · refine Ev.congr (fun k => by rw [hb, if_neg (by decide), wr _ (by omega) (by omega)]) ?_
            rw [show valsOf (fun v => tr (fitsP (labs.map m75) samples spread (offOf l) lab d L v)) (n + 1) v = valsOf (fun v => tr (fitsP (labs.map m75) samples spread (offOf l) lab d L v)) n (v + 1) from by simp only [valsOf]; rw [if_neg (by rw [hb]; decide)]]
            exact ihn (v + 1) x13 (by omega) (by omega) (by omega) (by omega)
          · refine Ev.congr (fun k => by rw [hb, if_pos rfl, if_pos (by omega), wr _ (by omega) (by omega)]) ?_
            rw [show valsOf (fun v => tr (fitsP (labs.map m75) samples spread (offOf l) lab d L v)) (n + 1) v = v :: valsOf (fun v => tr (fitsP (labs.map m75) samples spread (offOf l) lab d L v)) n (v + 1) from by simp only [valsOf]; rw [if_pos hb]]
            have := ihn (v + 1) (x13 ++ [v]) (by omega) (by omega) (by omega) (by rw [List.length_append]; simp only [List.length_singleton]; omega)
            simpa only [List.append_assoc, List.singleton_append] using this
      have h := inner _ (rd_T44 lots (L : Int)).f0 [] (Int.le_refl _) rfl (by omega) (by simp only [List.length_nil]; omega)
      simpa only [List.nil_append, lotsV, lotV, List.all_cons] using h
  have h := key lots.length 0 [] true (by omega) (by omega) rfl
  simp only [List.nil_append, Bool.true_and] at h
  exact h
theorem lotsV_all (o : Nat → Bool) (lab d : Int) (q : List Int → Bool) : ∀ (n L : Nat), (lotsV lots samples spread labs o lab d n L).all q = true ↔ ∀ j, L ≤ j → j < L + n → q (lotV lots samples spread labs o lab d j) = true := by
  intro n
  induction n with
  | zero => intro L; simp only [lotsV, List.all_nil, true_iff]; intro j h1 h2; omega
  | succ n ih =>
    intro L
    simp only [lotsV, List.all_cons, Bool.and_eq_true, ih]
    constructor
    · rintro ⟨h1, h2⟩ j h3 h4
      by_cases e : j = L
      · subst e; exact h1
      · exact h2 j (by omega) (by omega)
    · intro h
      exact ⟨h L (Nat.le_refl _) (by omega), fun j h1 h2 => h j (by omega) (by omega)⟩
theorem mem_lotV (o : Nat → Bool) (lab d : Int) (hok : RoundOk (lots.map m46) samples spread (labs.map m75)) (L : Nat) (hL : L < lots.length) (v : Int) : v ∈ lotV lots samples spread labs o lab d L ↔ inR v ((lots.map m46).getD L z46) ∧ fitsP (labs.map m75) samples spread o lab d L v := by
  obtain ⟨b0, b1, b2⟩ := lot_ok lots samples spread labs hok L hL
  unfold lotV
  rw [mem_valsOf, tr_iff, getD46 lots L hL]
  simp only [inR, m46]
  constructor
  · rintro ⟨h1, h2, h3⟩; exact ⟨⟨by omega, by omega⟩, h3⟩
  · rintro ⟨⟨h1, h2⟩, h3⟩; exact ⟨by omega, by omega, h3⟩
theorem lotsV_can (o : Nat → Bool) (lab d : Int) (hok : RoundOk (lots.map m46) samples spread (labs.map m75)) : ((lotsV lots samples spread labs o lab d lots.length 0).all fun x => decide (0 < x.length)) = (spansF (lots.map m46) samples spread (labs.map m75) o lab d).2 := by
  refine bool_ext ?_
  rw [can_iff hok, lotsV_all]
  have e : (lots.map m46).length = lots.length := List.length_map _
  rw [e]
  constructor
  · intro h L hL
    have := of_decide_eq_true (h L (by omega) (by omega))
    obtain ⟨v, hv⟩ := List.exists_mem_of_length_pos this
    exact ⟨v, (mem_lotV lots samples spread labs o lab d hok L hL v).1 hv⟩
  · intro h L _ hL
    obtain ⟨v, hv⟩ := h L (by omega)
    exact decide_eq_true (List.length_pos_of_mem ((mem_lotV lots samples spread labs o lab d hok L (by omega) v).2 hv))
theorem Explains_ev (l : List Int) (hl : l.length ≤ 9223372036854775807) (hok : RoundOk (lots.map m46) samples spread (labs.map m75)) : Ev (fun k => tensileref08_Explains.f k lots samples spread labs l) (canF (lots.map m46) samples spread (labs.map m75) (offOf l)) := by
  unfold tensileref08_Explains.f
  refine Ev.bind (Lots_ev lots samples spread labs l (-1) 0 hl hok (by omega) (by omega)) ?_
  simp only [lotsV_can lots samples spread labs _ _ _ hok]
  exact Ev.now _
end
end Go.Proofs.Ytcpbhklaffgokaa.Q
