/- The contracts of DrySpells. -/
import Derived.Test.YtbaffjjafkpcfaaDry
namespace Go.Proofs.Ytbaffjjafkpcfaa
open Go.RowKit

/-- the rows that are asked for among the first k -/
def selV (S : List (Int × Int)) (a : Int) (vs : List Value) (k : Nat) : List Value := (selTo S a k).map (fun j => vs.getD j (.slice none 0 0))
theorem selV_yes {S : List (Int × Int)} {a : Int} {vs : List Value} {k : Nat} {p : Int × Int} {u : Value} (hp : S[k]? = some p) (h : a ≤ p.2) (hu : vs[k]? = some u) : selV S a vs (k + 1) = selV S a vs k ++ [u] := by
  rw [selV, sel_yes (by rw [getD_at hp]; exact h), List.map_append, List.map_singleton, getD_at hu]; rfl
theorem selV_no {S : List (Int × Int)} {a : Int} {vs : List Value} {k : Nat} {p : Int × Int} (hp : S[k]? = some p) (h : ¬ a ≤ p.2) : selV S a vs (k + 1) = selV S a vs k := by
  rw [selV, sel_no (by rw [getD_at hp]; exact h)]; rfl
theorem selV_len (S : List (Int × Int)) (a : Int) (vs : List Value) (k : Nat) : (selV S a vs k).length ≤ k := by
  rw [selV, List.length_map]; exact sel_len S a k
theorem dry_end {α : Type} {L : List Int} {a : Int} {w : World} {b b0 : Nat} {E TE : TypeId} {v : Value} {vs : List Value} (hj : dryJs L a = selTo (dsTo L L.length) a (dsTo L L.length).length) (hl : vs.length = (dsTo L L.length).length) (ho : Own ev 1 w b0 TE v (selV (dsTo L L.length) a vs vs.length)) (hi : InV e1 1 w b E vs (rowOf (dsTo L L.length))) (hb : b0 ≤ b) (hf : ∀ (k : Nat) (u : Value), vs[k]? = some u → Apart u v) (_ : α) :
    (selV (dsTo L L.length) a vs vs.length).length = (dryJs L a).length ∧ OwnV e1 1 w b0 w.heap.size E TE v (selV (dsTo L L.length) a vs vs.length) (dryF L a) := by
  refine ⟨by rw [selV, List.length_map, hj, hl], OwnV.made ho ?_ ?_⟩
  · refine InV.congr ((hi.base_ hb).sub (fun j hm => sel_lt hm) (sel_up _ _ _)) (fun k _ => ?_)
    rw [dryF, hj, hl]
  · intro k u hu
    rw [selV, List.getElem?_map] at hu
    cases hk : (selTo (dsTo L L.length) a vs.length)[k]? with
    | none => rw [hk] at hu; cases hu
    | some j =>
      rw [hk] at hu
      have hjl := sel_lt (List.mem_of_getElem? hk)
      refine hf j u ?_
      rw [get_at hjl, ← Option.some.inj hu]
      exact congrArg some (getD_at (get_at hjl)).symm
/-- the spells that are asked for, as lists -/
def dryLL (L : List Int) (a : Int) : List (List Int) := listOf (dryJs L a).length (dryF L a)
theorem dryLL_len (L : List Int) (a : Int) : (dryLL L a).length = (dryJs L a).length := listOf_len _ _
theorem dryLL_tot (L : List Int) (a : Int) (k : Nat) (hk : k ≤ (dryLL L a).length) : totTo (dryLL L a) k = 2 * k := by
  induction k with
  | zero => simp [totTo]
  | succ k ih =>
    have h1 : (dryLL L a)[k]? = some (dryF L a k) := listOf_get (by rw [← dryLL_len]; omega)
    rw [totTo_succ h1, ih (by omega)]
    simp only [dryF, rowOf, List.length_cons, List.length_nil]
    omega
theorem mkf_len (k : Int) (n : Nat) (f : Nat → List Int) (j : Nat) : totTo (listOf n (mkf1 k n f)) j = totTo (listOf n f) j := by
  refine totTo_congr ?_ j
  simp only [listOf, List.map_map]
  refine List.map_congr_left fun i _ => ?_
  simp only [Function.comp_apply, mkf1, marks1_len]
theorem mkf_marks (k : Int) (n : Nat) (f : Nat → List Int) (j : Nat) (l : List Int) (h : (listOf n (mkf1 k n f))[j]? = some l) : l = marks1 (k + 1 * (totTo (listOf n (mkf1 k n f)) j : Nat)) l.length := by
  obtain ⟨hj, rfl⟩ := List.getElem?_eq_some_iff.1 h
  rw [listOf_at _ hj, mkf_len, mkf1, marks1_len]

set_option maxHeartbeats 4000000 in
theorem DrySpells_c (A : Option Addr) (c : Nat) (L : List Int) (a : Int) (w : World) (hR : Rd e1 1 w w.heap.size A L) (hn : L.length ≤ maxLen) :
    Calls Try.prog 10 #[.slice A L.length c, .int .i64 a] w fun e w' => ∃ v vs, e = .returned (.tuple #[v, .int .i64 (dryCode L a)]) ∧ vs.length = (dryJs L a).length ∧ OwnV e1 1 w' w.heap.size w'.heap.size 2 22 v vs (dryF L a) ∧ Below w.heap.size w w' := by
  cases h : rainOk L
  · have HC := Lib.hid (show dryCode L a = 1 by simp [dryCode, code3, h])
    have HF := Lib.hid (show dryJs L a = [] by simp [dryJs, HC.out])
    have H1 := Lib.hid h
    clear h
    go_enter Try.func10, Try.ntmps10
    go_wp2_with fail
    refine (ValidRain_c _ _ _ _ hR hn).mono ?_
    rintro e w1 ⟨rfl, hb1⟩
    rw [H1.out]
    go_wp2
    go_ret2
    exact ⟨_, [], by rw [HC.out]; rfl, by rw [HF.out]; rfl, OwnV.empty_ hb1.size, hb1.alloc hb1.size _⟩
  have H1 := Lib.hid h
  have hl := rainOk_len h
  cases h2 : inB a 1 120
  · have HC := Lib.hid (show dryCode L a = 2 by simp [dryCode, code3, h, h2])
    have HF := Lib.hid (show dryJs L a = [] by simp [dryJs, HC.out])
    have H2 := Lib.hid h2
    clear h h2
    go_enter Try.func10, Try.ntmps10
    go_wp2_with fail
    refine (ValidRain_c _ _ _ _ hR hn).mono ?_
    rintro e w1 ⟨rfl, hb1⟩
    rw [H1.out]
    go_wp2_with fail
    refine (days_c _ _).mono ?_
    rintro e w' ⟨rfl, rfl⟩
    rw [H2.out]
    go_wp2
    go_ret2
    exact ⟨_, [], by rw [HC.out]; rfl, by rw [HF.out]; rfl, OwnV.empty_ hb1.size, hb1.alloc hb1.size _⟩
  have H2 := Lib.hid h2
  have HC := Lib.hid (show dryCode L a = 0 by simp [dryCode, code3, h, h2])
  have HJ := Lib.hid (show dryJs L a = selTo (dsTo L L.length) a (dsTo L L.length).length by rw [dryJs, if_pos HC.out])
  obtain ⟨g1, g2⟩ := inB_iff.1 h2
  clear h h2
  go_enter Try.func10, Try.ntmps10
  go_wp2_with fail
  refine (ValidRain_c _ _ _ _ hR hn).mono ?_
  rintro e w1 ⟨rfl, hb1⟩
  rw [H1.out]
  go_wp2_with fail
  refine (days_c _ _).mono ?_
  rintro e w' ⟨rfl, rfl⟩
  rw [H2.out]
  have hb2 : Below w.heap.size w (w1.alloc (.cells #[] 22)) := hb1.alloc hb1.size _
  have hoD : Own ev 1 (w1.alloc (.cells #[] 22)) w.heap.size 22 (.slice (some ⟨w1.heap.size, 0, none⟩) 0 0) [] := own_empty_at hb1.size
  go_wp2_with fail
  refine (spells_c _ _ L _ ((hR.below hb2).more hb2.size) H1.out).mono ?_
  rintro e w3 ⟨vS, vsS, rfl, hvl, hOS, hb3⟩
  obtain ⟨AS, cS, rfl⟩ := hOS.form
  have apS := own_apart2 hoD hOS.outer (Nat.le_refl _)
  have apU : ∀ (k : Nat) (u : Value), vsS[k]? = some u → Apart u (.slice (some ⟨w1.heap.size, 0, none⟩) 0 0) := fun k u hu => own_apart2 hoD (hOS.inner k u hu).1 (Nat.le_refl _)
  have hoD := hoD.call hb3
  have hB := bel_call hb2 hb3 hb2.size
  have hb0 := hb2.size
  generalize (w1.alloc (.cells #[] 22)).heap.size = b3 at *
  have HOO := Lib.hid hOS.outer
  have HOI := Lib.hid hOS.inner
  have HVL := Lib.hid hvl
  have HAS := Lib.hid apS
  have HAU := Lib.hid apU
  have HD := Lib.hid hoD
  have HB := Lib.hid hB
  have hv1 : vsS.length ≤ 120 := by rw [hvl]; have := (ds_good L L.length).1; omega
  clear hvl apS apU hoD hB hOS hb1 hb2 hb3 hR
  go_wp2
  go_loopw [6, 23] (fun v i wr => ∃ k : Nat, k ≤ vsS.length ∧ i = .int .i64 k ∧ Own ev 1 wr w.heap.size 22 v (selV (dsTo L L.length) a vsS k) ∧ Own ev 1 wr b3 22 (.slice AS vsS.length cS) vsS ∧ InV e1 1 wr b3 2 vsS (rowOf (dsTo L L.length)) ∧ (∀ (k : Nat) (u : Value), vsS[k]? = some u → Apart u v) ∧ Apart (.slice AS vsS.length cS) v ∧ Below w.heap.size w wr) (fun _ i _ => vsS.length - (intOf i).toNat)
  case atStart => exact ⟨0, by omega, rfl, HD.out, HOO.out, HOI.out, HAU.out, HAS.out, HB.out⟩
  case round =>
    clear HD HOO HOI HAU HAS HB
    obtain ⟨k, hk, rfl, ho, hoS, hiS, hau, has, hb⟩ := hrel
    have hsz := hb.size
    have hsl := selV_len (dsTo L L.length) a vsS k
    by_cases hlt : k < vsS.length
    · have HU := Lib.hid (get_at hlt)
      have hkS : k < (dsTo L L.length).length := by rw [← HVL.out]; exact hlt
      have HP := Lib.hid (get_at hkS)
      obtain ⟨hui, _⟩ := hiS k _ HU.out
      rw [show rowOf (dsTo L L.length) k = [(dsTo L L.length)[k].1, (dsTo L L.length)[k].2] by rw [rowOf, getD_at HP.out]] at hui
      obtain ⟨Au, cu, hue⟩ := own_form hui
      have hui2 := hui
      rw [hue] at hui2
      obtain ⟨g, og, hA, hg, hcc⟩ := Own.rd_ len_ev hoS rfl (by omega)
      have o0 := hcc k hlt 0 _ rfl
      rw [Nat.mul_one, Nat.add_zero, hue] at o0
      obtain ⟨gu, ou, hAu, hgu, hcu⟩ := (Own.rd_ len_x1 hui2 rfl).at1 (k := 1) (by simp)
      have u1 := hcu 1 _ rfl
      have HO := Lib.hid ho
      have HOO := Lib.hid hoS
      have HOI := Lib.hid hiS
      have HAU := Lib.hid hau
      have HAS := Lib.hid has
      have HB := Lib.hid hb
      have HUE := Lib.hid hue
      subst hA hAu
      clear hcc hcu hui hui2 hue ho hoS hiS hau has hb
      simp only [List.length_cons, List.length_nil, Nat.zero_add, Nat.reduceAdd] at o0
      generalize (dsTo L L.length)[k] = p at *
      by_cases hp : a ≤ p.2
      · have HS := Lib.hid (selV_yes HP.out hp HU.out)
        go_wp2_with (at_builtin; refine appVInt64 _ _ rfl rfl _ (selV (dsTo L L.length) a vsS k) (some ⟨gu, ou, none⟩) 2 cu rfl HO.out HB.out rfl (by simp) (by omega) ?_; intro v2 w2 hown2 hb2 hg2 hat2; have HX := Lib.hid hown2; have HX2 := Lib.hid (own_other HOO.out HAS.out hg2 hat2); have HX3 := Lib.hid (HOI.out.grown_ hg2 HAU.out); have HX4 := Lib.hid (fun (j : Nat) (u : Value) (hu : vsS[j]? = some u) => (own_other (HOI.out j u hu).1 (HAU.out j u hu) hg2 hat2).2); clear hown2 hg2 hat2)
        go_roundw
        case rel => exact ⟨k + 1, by omega, by go_num, by rw [HS.out, HUE.out]; exact HX.out, HX2.out.1, HX3.out, HX4.out, HX2.out.2, hb2⟩
        case measure => simp [intOf]; omega
      · have HS := Lib.hid (selV_no (vs := vsS) HP.out hp)
        go_wp2
        go_roundw
        case rel => exact ⟨k + 1, by omega, by go_num, by rw [HS.out]; exact HO.out, HOO.out, HOI.out, HAU.out, HAS.out, HB.out⟩
        case measure => simp [intOf]; omega
    · obtain rfl : k = vsS.length := by omega
      obtain ⟨e1', e2'⟩ := dry_end HJ.out HVL.out ho hiS hb0 hau ()
      have E1 := Lib.hid e1'
      clear e1'
      go_wp2
      go_ret2
      exact ⟨_, _, by rw [HC.out]; rfl, E1.out, e2', hb⟩

set_option maxHeartbeats 4000000 in
theorem lDrySpells_c (A : Option Addr) (c : Nat) (L : List Int) (a : Int) (w : World) (hR : Rd e1 1 w w.heap.size A L) (hn : L.length ≤ maxLen) :
    Calls Try.prog 8 #[.slice A L.length c, .int .i64 a] w fun e w' => ∃ v vs, e = .returned (.tuple #[v, .int .i64 (dryCode L a)]) ∧ vs.length = (dryJs L a).length ∧ OwnV e1 1 w' w.heap.size w'.heap.size 2 22 v vs (dryF L a) ∧ Below w.heap.size w w' := by
  cases h : rainOk L
  · have HC := Lib.hid (show dryCode L a = 1 by simp [dryCode, code3, h])
    have HF := Lib.hid (show dryJs L a = [] by simp [dryJs, HC.out])
    have H1 := Lib.hid h
    clear h
    go_enter Try.func8, Try.ntmps8
    go_wp2_with fail
    refine (l06Code_c _ _ _ _ _ hR hn).mono ?_
    rintro e w1 ⟨rfl, hb1⟩
    rw [H1.out]
    simp only [code3, Bool.false_eq_true, if_false]
    go_wp2
    go_ret2
    exact ⟨_, [], by rw [HC.out]; rfl, by rw [HF.out]; rfl, OwnV.nil_, hb1⟩
  have H1 := Lib.hid h
  have hl := rainOk_len h
  cases h2 : inB a 1 120
  · have HC := Lib.hid (show dryCode L a = 2 by simp [dryCode, code3, h, h2])
    have HF := Lib.hid (show dryJs L a = [] by simp [dryJs, HC.out])
    have H2 := Lib.hid h2
    clear h h2
    go_enter Try.func8, Try.ntmps8
    go_wp2_with fail
    refine (l06Code_c _ _ _ _ _ hR hn).mono ?_
    rintro e w1 ⟨rfl, hb1⟩
    rw [H1.out]
    rw [H2.out]
    simp only [code3, Bool.false_eq_true, if_false, if_true]
    go_wp2
    go_ret2
    exact ⟨_, [], by rw [HC.out]; rfl, by rw [HF.out]; rfl, OwnV.nil_, hb1⟩
  have H2 := Lib.hid h2
  have HC := Lib.hid (show dryCode L a = 0 by simp [dryCode, code3, h, h2])
  have HJ := Lib.hid (show dryJs L a = selTo (dsTo L L.length) a (dsTo L L.length).length by rw [dryJs, if_pos HC.out])
  obtain ⟨g1, g2⟩ := inB_iff.1 h2
  clear h h2
  go_enter Try.func8, Try.ntmps8
  go_wp2_with fail
  refine (l06Code_c _ _ _ _ _ hR hn).mono ?_
  rintro e w1 ⟨rfl, hb1⟩
  rw [H1.out]
  rw [H2.out]
  simp only [code3, if_true]
  go_wp2_with fail
  refine (l06Dry_c _ _ L _ ((hR.below hb1).more hb1.size) H1.out).mono ?_
  rintro e w2 ⟨vS, vsS, rfl, hvl, hOS, hb3⟩
  obtain ⟨AS, cS, rfl⟩ := hOS.form
  have hb2 := bel_call hb1 hb3 hb1.size
  have hoD : Own ev 1 (w2.alloc (.cells #[] 22)) w.heap.size 22 (.slice (some ⟨w2.heap.size, 0, none⟩) 0 0) [] := own_empty_at hb2.size
  have apS := own_apart hOS.outer (own_empty_at (enc := ev) (sz := 1) (E := 22) (Nat.le_refl w2.heap.size)) (Nat.le_refl _)
  have apU : ∀ (k : Nat) (u : Value), vsS[k]? = some u → Apart u (.slice (some ⟨w2.heap.size, 0, none⟩) 0 0) := fun k u hu => own_apart (hOS.inner k u hu).1 (own_empty_at (enc := ev) (sz := 1) (E := 22) (Nat.le_refl w2.heap.size)) (Nat.le_refl _)
  have hB := hb2.alloc hb2.size (.cells #[] 22)
  have hb0 := hb1.size
  generalize w1.heap.size = b3 at *
  have HOO := Lib.hid (hOS.outer.call (below_alloc1 w2 (.cells #[] 22)))
  have HOI := Lib.hid (hOS.inner.call (below_alloc1 w2 (.cells #[] 22)))
  have HVL := Lib.hid hvl
  have HAS := Lib.hid apS
  have HAU := Lib.hid apU
  have HD := Lib.hid hoD
  have HB := Lib.hid hB
  have hv1 : vsS.length ≤ 120 := by rw [hvl]; have := (ds_good L L.length).1; omega
  clear hvl apS apU hoD hB hOS hb1 hb2 hb3 hR
  go_wp2
  go_loopw [8, 9] (fun v i wr => ∃ k : Nat, k ≤ vsS.length ∧ i = .int .i64 k ∧ Own ev 1 wr w.heap.size 22 v (selV (dsTo L L.length) a vsS k) ∧ Own ev 1 wr b3 22 (.slice AS vsS.length cS) vsS ∧ InV e1 1 wr b3 2 vsS (rowOf (dsTo L L.length)) ∧ (∀ (k : Nat) (u : Value), vsS[k]? = some u → Apart u v) ∧ Apart (.slice AS vsS.length cS) v ∧ Below w.heap.size w wr) (fun _ i _ => vsS.length - (intOf i).toNat)
  case atStart => exact ⟨0, by omega, rfl, HD.out, HOO.out, HOI.out, HAU.out, HAS.out, HB.out⟩
  case round =>
    clear HD HOO HOI HAU HAS HB
    obtain ⟨k, hk, rfl, ho, hoS, hiS, hau, has, hb⟩ := hrel
    have hsz := hb.size
    have hsl := selV_len (dsTo L L.length) a vsS k
    by_cases hlt : k < vsS.length
    · have HU := Lib.hid (get_at hlt)
      have hkS : k < (dsTo L L.length).length := by rw [← HVL.out]; exact hlt
      have HP := Lib.hid (get_at hkS)
      obtain ⟨hui, _⟩ := hiS k _ HU.out
      rw [show rowOf (dsTo L L.length) k = [(dsTo L L.length)[k].1, (dsTo L L.length)[k].2] by rw [rowOf, getD_at HP.out]] at hui
      obtain ⟨Au, cu, hue⟩ := own_form hui
      have hui2 := hui
      rw [hue] at hui2
      obtain ⟨g, og, hA, hg, hcc⟩ := Own.rd_ len_ev hoS rfl (by omega)
      have o0 := hcc k hlt 0 _ rfl
      rw [Nat.mul_one, Nat.add_zero, hue] at o0
      obtain ⟨gu, ou, hAu, hgu, hcu⟩ := (Own.rd_ len_x1 hui2 rfl).at1 (k := 1) (by simp)
      have u1 := hcu 1 _ rfl
      have HO := Lib.hid ho
      have HOO := Lib.hid hoS
      have HOI := Lib.hid hiS
      have HAU := Lib.hid hau
      have HAS := Lib.hid has
      have HB := Lib.hid hb
      have HUE := Lib.hid hue
      subst hA hAu
      clear hcc hcu hui hui2 hue ho hoS hiS hau has hb
      simp only [List.length_cons, List.length_nil, Nat.zero_add, Nat.reduceAdd] at o0
      generalize (dsTo L L.length)[k] = p at *
      by_cases hp : a ≤ p.2
      · have HS := Lib.hid (selV_yes HP.out hp HU.out)
        go_wp2_with (at_builtin; refine appVInt64 _ _ rfl rfl _ (selV (dsTo L L.length) a vsS k) (some ⟨gu, ou, none⟩) 2 cu rfl HO.out HB.out rfl (by simp) (by omega) ?_; intro v2 w2 hown2 hb2 hg2 hat2; have HX := Lib.hid hown2; have HX2 := Lib.hid (own_other HOO.out HAS.out hg2 hat2); have HX3 := Lib.hid (HOI.out.grown_ hg2 HAU.out); have HX4 := Lib.hid (fun (j : Nat) (u : Value) (hu : vsS[j]? = some u) => (own_other (HOI.out j u hu).1 (HAU.out j u hu) hg2 hat2).2); clear hown2 hg2 hat2)
        go_roundw
        case rel => exact ⟨k + 1, by omega, by go_num, by rw [HS.out, HUE.out]; exact HX.out, HX2.out.1, HX3.out, HX4.out, HX2.out.2, hb2⟩
        case measure => simp [intOf]; omega
      · have HS := Lib.hid (selV_no (vs := vsS) HP.out hp)
        go_wp2
        go_roundw
        case rel => exact ⟨k + 1, by omega, by go_num, by rw [HS.out]; exact HO.out, HOO.out, HOI.out, HAU.out, HAS.out, HB.out⟩
        case measure => simp [intOf]; omega
    · obtain rfl : k = vsS.length := by omega
      obtain ⟨e1', e2'⟩ := dry_end HJ.out HVL.out ho hiS hb0 hau ()
      have E1 := Lib.hid e1'
      clear e1'
      go_wp2
      go_ret2
      exact ⟨_, _, by rw [HC.out]; rfl, E1.out, e2', hb⟩

end Go.Proofs.Ytbaffjjafkpcfaa
