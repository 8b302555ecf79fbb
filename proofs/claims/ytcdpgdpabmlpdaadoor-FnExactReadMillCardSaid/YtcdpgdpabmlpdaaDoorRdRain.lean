/- ReadRain. -/
import Derived.Test.YtcdpgdpabmlpdaaDoorRd3
import Derived.Test.YtcdpgdpabmlpdaaDoorStr2
import Derived.Lib.QuietBelow
import Derived.BigQuiet
namespace Go.Proofs.YtcdpgdpabmlpdaaDoor
open Go.RowKit

theorem pt_step (b : UInt8) (s : ByteArray) : ∀ k, k ≤ s.size → (ptTo b s k).1.map (fun x => x.data.toList) ++ sp b (s.data.toList.drop k) ((s.data.toList.drop (ptTo b s k).2).take (k - (ptTo b s k).2)) = sp b s.data.toList [] := by
  intro k
  induction k with
  | zero => intro _; simp [ptTo]
  | succ k ih =>
    intro hk
    have hlt : k < s.size := hk
    have hl : k < s.data.toList.length := by rw [← Lib.size_eq]; exact hlt
    have h := ih (by omega)
    have hle := (ptTo_le b s k).1
    have hx := at_list s hlt
    have hg : s.data.toList[k]'hl = s[k]'hlt := by rw [List.getElem?_eq_getElem hl] at hx; exact Option.some.inj hx
    rw [List.drop_eq_getElem_cons hl, hg, sp] at h
    by_cases hq : s[k]'hlt = b
    · rw [if_pos hq] at h
      rw [ptTo_yes hlt hq]
      simp only [List.map_append, List.map_cons, List.map_nil, ext_list, Nat.sub_self, List.take_zero, List.append_assoc, List.cons_append, List.nil_append]
      exact h
    · rw [if_neg hq] at h
      rw [ptTo_no hlt hq, cut_snoc hle hx]
      exact h
theorem pt_sp (b : UInt8) (s : ByteArray) : (ptAll b s).map (fun x => x.data.toList) = sp b s.data.toList [] := by
  have h := pt_step b s s.size (Nat.le_refl _)
  rw [List.drop_eq_nil_of_le (by rw [← Lib.size_eq]; exact Nat.le_refl _), sp] at h
  rw [ptAll, List.map_append, ← h]
  simp
theorem pt_size (b : UInt8) (s x : ByteArray) (h : x ∈ ptAll b s) : x.size ≤ s.size := by
  have key : ∀ k, ∀ y ∈ (ptTo b s k).1, y.size ≤ s.size := by
    intro k
    induction k with
    | zero => intro y hy; simp [ptTo] at hy
    | succ k ih =>
      intro y hy
      rw [ptTo] at hy
      split at hy
      · rw [List.mem_append, List.mem_singleton] at hy
        rcases hy with hy | rfl
        · exact ih y hy
        · rw [ByteArray.size_extract]; omega
      · exact ih y hy
  rw [ptAll, List.mem_append, List.mem_singleton] at h
  rcases h with h | rfl
  · exact key _ x h
  · rw [ByteArray.size_extract]; omega

def dg0 (C : ByteArray) : Int := ((C.get! 0).toNat : Int) - 48
def lrOk (A C : ByteArray) : Prop := C.size = 3 ∧ (C.extract 1 C.size).data.toList = [109, 109] ∧ digC (C.get! 0) = true ∧ rdB A = true ∧ inB (rdI A) 0 300 = true ∧ inB (10 * rdI A + dg0 C) 0 3000 = true
instance (A C : ByteArray) : Decidable (lrOk A C) := by unfold lrOk; exact inferInstance
def lrO (s : ByteArray) : Option Int := match ptAll 46 s with
  | [A, C] => if lrOk A C then some (10 * rdI A + dg0 C) else none
  | _ => none
def optI (o : Option Int) : Int := o.getD 0
def optB (o : Option Int) : Bool := o.isSome
theorem lrO_two {s A C : ByteArray} (h : ptAll 46 s = [A, C]) : lrO s = if lrOk A C then some (10 * rdI A + dg0 C) else none := by rw [lrO, h]
theorem lrO_not {s : ByteArray} (h : (ptAll 46 s).length ≠ 2) : lrO s = none := by
  unfold lrO
  split
  · rename_i hP; rw [hP] at h; exact absurd rfl h
  · rfl
set_option maxHeartbeats 4000000 in
set_option maxRecDepth 100000 in
theorem lReadRain_c (s : ByteArray) (hs : s.size ≤ 1048576) (w : World) : Calls Tryd.prog 30 #[.string s] w fun e w' => e = .returned (.tuple #[.int .i64 (optI (lrO s)), .bool (optB (lrO s))]) ∧ Below w.heap.size w w' := by
  by_cases hP : (ptAll 46 s).length = 2
  · obtain ⟨A, C, hPP⟩ : ∃ A C, ptAll 46 s = [A, C] := by
      match h : ptAll 46 s, hP with
      | [A, C], _ => exact ⟨A, C, rfl⟩
    have hAs := pt_size 46 s A (by rw [hPP]; simp)
    have hCs := pt_size 46 s C (by rw [hPP]; simp)
    have HPP := Lib.hid hPP
    clear hP hPP
    by_cases h1 : C.size = 3
    · have hC0 : 0 < C.size := by omega
      have hg : C.get! 0 = C[0]'hC0 := get_bang hC0
      have b1 : ((C.size : Int) != 3) = false := by rw [h1]; rfl
      have z1 : (0 : Int) < (C.size : Int) := by omega
      have z2 : (1 : Int) ≤ (C.size : Int) := by omega
      by_cases h2 : (C.extract 1 C.size).data.toList = [109, 109]
      · have b2 : ((C.extract 1 C.size).toList == [109, 109]) = true := by rw [ByteArray.toList_eq, h2]; rfl
        cases h3 : digC (C[0]'hC0)
        · have HV := Lib.hid (show lrO s = none by rw [lrO_two HPP.out]; exact if_neg (fun h => by have := h.2.2.1; rw [hg, h3] at this; cases this))
          have H3 := Lib.hid h3
          clear h1 h2 h3 hg
          go_enter Tryd.func30, Tryd.ntmps30
          go_wp2_with fail
          refine (l01Split_c s hs 46 _).mono ?_
          rintro e w1 ⟨v, rfl, ho, hb⟩
          have HB := Lib.hid hb
          have hsz1 := hb.size
          clear hb
          rw [HPP.out] at ho
          obtain ⟨D, c, rfl⟩ := own_form ho
          obtain ⟨bk, off, rfl, hbb, hc⟩ := Own.rd_ len_eS ho rfl (by simp)
          have k0 := hc 0 (by simp) 0 _ rfl
          have k1 := hc 1 (by simp) 0 _ rfl
          simp only [List.getElem_cons_zero, List.getElem_cons_succ, Nat.zero_mul, Nat.one_mul, Nat.add_zero] at k0 k1
          clear hc ho
          go_wp2_with fail
          refine (l01Digit_c (C[0]'hC0) _).mono ?_
          rintro e w' ⟨rfl, rfl⟩
          rw [H3.out]
          go_wp2
          go_ret2
          exact ⟨by rw [HV.out]; rfl, HB.out⟩
        · have hd : 48 ≤ (C[0]'hC0).toNat ∧ (C[0]'hC0).toNat ≤ 57 := by simpa [digC] using h3
          have g1 : (48 : Int) ≤ ((C[0]'hC0).toNat : Int) := by omega
          have g2 : ((C[0]'hC0).toNat : Int) ≤ 57 := by omega
          have HG := Lib.hid (show dg0 C = ((C[0]'hC0).toNat : Int) - 48 by rw [dg0, hg])
          cases h4 : rdB A
          · have HV := Lib.hid (show lrO s = none by rw [lrO_two HPP.out]; exact if_neg (fun h => by have := h.2.2.2.1; rw [h4] at this; cases this))
            have H3 := Lib.hid h3
            have H4 := Lib.hid h4
            clear h1 h2 h3 h4 hg
            go_enter Tryd.func30, Tryd.ntmps30
            go_wp2_with fail
            refine (l01Split_c s hs 46 _).mono ?_
            rintro e w1 ⟨v, rfl, ho, hb⟩
            have HB := Lib.hid hb
            have hsz1 := hb.size
            clear hb
            rw [HPP.out] at ho
            obtain ⟨D, c, rfl⟩ := own_form ho
            obtain ⟨bk, off, rfl, hbb, hc⟩ := Own.rd_ len_eS ho rfl (by simp)
            have k0 := hc 0 (by simp) 0 _ rfl
            have k1 := hc 1 (by simp) 0 _ rfl
            simp only [List.getElem_cons_zero, List.getElem_cons_succ, Nat.zero_mul, Nat.one_mul, Nat.add_zero] at k0 k1
            clear hc ho
            go_wp2_with fail
            refine (l01Digit_c (C[0]'hC0) _).mono ?_
            rintro e w' ⟨rfl, rfl⟩
            rw [H3.out]
            go_wp2_with fail
            refine (l01Number_c A (by omega) _).mono ?_
            rintro e w2 ⟨rfl, hb2⟩
            rw [H4.out]
            have m1 := kc hb2 k1
            have HB2 := Lib.hid (bel_call HB.out hb2 hsz1)
            clear hb2
            go_wp2
            go_ret2
            exact ⟨by rw [HV.out]; rfl, HB2.out⟩
          · cases h5 : inB (rdI A) 0 300
            · have HV := Lib.hid (show lrO s = none by rw [lrO_two HPP.out]; exact if_neg (fun h => by have := h.2.2.2.2.1; rw [h5] at this; cases this))
              have H3 := Lib.hid h3
              have H4 := Lib.hid h4
              have H5 := Lib.hid h5
              clear h1 h2 h3 h4 h5 hg
              go_enter Tryd.func30, Tryd.ntmps30
              go_wp2_with fail
              refine (l01Split_c s hs 46 _).mono ?_
              rintro e w1 ⟨v, rfl, ho, hb⟩
              have HB := Lib.hid hb
              have hsz1 := hb.size
              clear hb
              rw [HPP.out] at ho
              obtain ⟨D, c, rfl⟩ := own_form ho
              obtain ⟨bk, off, rfl, hbb, hc⟩ := Own.rd_ len_eS ho rfl (by simp)
              have k0 := hc 0 (by simp) 0 _ rfl
              have k1 := hc 1 (by simp) 0 _ rfl
              simp only [List.getElem_cons_zero, List.getElem_cons_succ, Nat.zero_mul, Nat.one_mul, Nat.add_zero] at k0 k1
              clear hc ho
              go_wp2_with fail
              refine (l01Digit_c (C[0]'hC0) _).mono ?_
              rintro e w' ⟨rfl, rfl⟩
              rw [H3.out]
              go_wp2_with fail
              refine (l01Number_c A (by omega) _).mono ?_
              rintro e w2 ⟨rfl, hb2⟩
              rw [H4.out]
              have m1 := kc hb2 k1
              have HB2 := Lib.hid (bel_call HB.out hb2 hsz1)
              clear hb2
              go_wp2_with fail
              refine (lin_c _ _ _ _).mono ?_
              rintro e w' ⟨rfl, rfl⟩
              rw [H5.out]
              go_wp2
              go_ret2
              exact ⟨by rw [HV.out]; rfl, HB2.out⟩
            · have hr := inB_iff.1 h5
              cases h6 : inB ((10 : Int) * rdI A + (((C[0]'hC0).toNat : Int) - 48)) 0 3000
              · have HV := Lib.hid (show lrO s = none by rw [lrO_two HPP.out]; exact if_neg (fun h => by have := h.2.2.2.2.2; rw [HG.out, h6] at this; cases this))
                have H3 := Lib.hid h3
                have H4 := Lib.hid h4
                have H5 := Lib.hid h5
                have H6 := Lib.hid h6
                clear h1 h2 h3 h4 h5 h6 hg
                go_enter Tryd.func30, Tryd.ntmps30
                go_wp2_with fail
                refine (l01Split_c s hs 46 _).mono ?_
                rintro e w1 ⟨v, rfl, ho, hb⟩
                have HB := Lib.hid hb
                have hsz1 := hb.size
                clear hb
                rw [HPP.out] at ho
                obtain ⟨D, c, rfl⟩ := own_form ho
                obtain ⟨bk, off, rfl, hbb, hc⟩ := Own.rd_ len_eS ho rfl (by simp)
                have k0 := hc 0 (by simp) 0 _ rfl
                have k1 := hc 1 (by simp) 0 _ rfl
                simp only [List.getElem_cons_zero, List.getElem_cons_succ, Nat.zero_mul, Nat.one_mul, Nat.add_zero] at k0 k1
                clear hc ho
                go_wp2_with fail
                refine (l01Digit_c (C[0]'hC0) _).mono ?_
                rintro e w' ⟨rfl, rfl⟩
                rw [H3.out]
                go_wp2_with fail
                refine (l01Number_c A (by omega) _).mono ?_
                rintro e w2 ⟨rfl, hb2⟩
                rw [H4.out]
                have m1 := kc hb2 k1
                have HB2 := Lib.hid (bel_call HB.out hb2 hsz1)
                clear hb2
                go_wp2_with fail
                refine (lin_c _ _ _ _).mono ?_
                rintro e w' ⟨rfl, rfl⟩
                rw [H5.out]
                go_wp2_with fail
                refine (lrain_c _ _).mono ?_
                rintro e w' ⟨rfl, rfl⟩
                rw [H6.out]
                go_wp2
                go_ret2
                exact ⟨by rw [HV.out]; rfl, HB2.out⟩
              · have HV := Lib.hid (show lrO s = some ((10 : Int) * rdI A + (((C[0]'hC0).toNat : Int) - 48)) by rw [lrO_two HPP.out, if_pos ⟨h1, h2, by rw [hg]; exact h3, h4, h5, by rw [HG.out]; exact h6⟩, HG.out])
                have H3 := Lib.hid h3
                have H4 := Lib.hid h4
                have H5 := Lib.hid h5
                have H6 := Lib.hid h6
                clear h1 h2 h3 h4 h5 h6 hg
                go_enter Tryd.func30, Tryd.ntmps30
                go_wp2_with fail
                refine (l01Split_c s hs 46 _).mono ?_
                rintro e w1 ⟨v, rfl, ho, hb⟩
                have HB := Lib.hid hb
                have hsz1 := hb.size
                clear hb
                rw [HPP.out] at ho
                obtain ⟨D, c, rfl⟩ := own_form ho
                obtain ⟨bk, off, rfl, hbb, hc⟩ := Own.rd_ len_eS ho rfl (by simp)
                have k0 := hc 0 (by simp) 0 _ rfl
                have k1 := hc 1 (by simp) 0 _ rfl
                simp only [List.getElem_cons_zero, List.getElem_cons_succ, Nat.zero_mul, Nat.one_mul, Nat.add_zero] at k0 k1
                clear hc ho
                go_wp2_with fail
                refine (l01Digit_c (C[0]'hC0) _).mono ?_
                rintro e w' ⟨rfl, rfl⟩
                rw [H3.out]
                go_wp2_with fail
                refine (l01Number_c A (by omega) _).mono ?_
                rintro e w2 ⟨rfl, hb2⟩
                rw [H4.out]
                have m1 := kc hb2 k1
                have HB2 := Lib.hid (bel_call HB.out hb2 hsz1)
                clear hb2
                go_wp2_with fail
                refine (lin_c _ _ _ _).mono ?_
                rintro e w' ⟨rfl, rfl⟩
                rw [H5.out]
                go_wp2_with fail
                refine (lrain_c _ _).mono ?_
                rintro e w' ⟨rfl, rfl⟩
                rw [H6.out]
                go_wp2
                go_ret2
                exact ⟨by rw [HV.out]; rfl, HB2.out⟩
      · have b2 : ((C.extract 1 C.size).toList == [109, 109]) = false := by rw [ByteArray.toList_eq]; exact beq_eq_false_iff_ne.2 h2
        have HV := Lib.hid (show lrO s = none by rw [lrO_two HPP.out]; exact if_neg (fun h => h2 h.2.1))
        clear h1 h2 hg
        go_enter Tryd.func30, Tryd.ntmps30
        go_wp2_with fail
        refine (l01Split_c s hs 46 _).mono ?_
        rintro e w1 ⟨v, rfl, ho, hb⟩
        have HB := Lib.hid hb
        have hsz1 := hb.size
        clear hb
        rw [HPP.out] at ho
        obtain ⟨D, c, rfl⟩ := own_form ho
        obtain ⟨bk, off, rfl, hbb, hc⟩ := Own.rd_ len_eS ho rfl (by simp)
        have k0 := hc 0 (by simp) 0 _ rfl
        have k1 := hc 1 (by simp) 0 _ rfl
        simp only [List.getElem_cons_zero, List.getElem_cons_succ, Nat.zero_mul, Nat.one_mul, Nat.add_zero] at k0 k1
        clear hc ho
        go_wp2
        go_ret2
        exact ⟨by rw [HV.out]; rfl, HB.out⟩
    · have b1 : ((C.size : Int) != 3) = true := bne_iff_ne.2 (by omega)
      have HV := Lib.hid (show lrO s = none by rw [lrO_two HPP.out]; exact if_neg (fun h => h1 h.1))
      clear h1
      go_enter Tryd.func30, Tryd.ntmps30
      go_wp2_with fail
      refine (l01Split_c s hs 46 _).mono ?_
      rintro e w1 ⟨v, rfl, ho, hb⟩
      have HB := Lib.hid hb
      have hsz1 := hb.size
      clear hb
      rw [HPP.out] at ho
      obtain ⟨D, c, rfl⟩ := own_form ho
      obtain ⟨bk, off, rfl, hbb, hc⟩ := Own.rd_ len_eS ho rfl (by simp)
      have k0 := hc 0 (by simp) 0 _ rfl
      have k1 := hc 1 (by simp) 0 _ rfl
      simp only [List.getElem_cons_zero, List.getElem_cons_succ, Nat.zero_mul, Nat.one_mul, Nat.add_zero] at k0 k1
      clear hc ho
      go_wp2
      go_ret2
      exact ⟨by rw [HV.out]; rfl, HB.out⟩
  · have HV := Lib.hid (lrO_not hP)
    have b0 : (((ptAll 46 s).length : Int) != 2) = true := bne_iff_ne.2 (by omega)
    clear hP

    go_enter Tryd.func30, Tryd.ntmps30
    go_wp2_with fail
    refine (l01Split_c s hs 46 _).mono ?_
    rintro e w1 ⟨v, rfl, ho, hb⟩
    have HB := Lib.hid hb
    have hsz1 := hb.size
    clear hb
    obtain ⟨D, c, rfl⟩ := own_form ho
    clear ho
    go_wp2
    go_ret2
    exact ⟨by rw [HV.out]; rfl, HB.out⟩

def rrO (s : ByteArray) : Option Int := match numsB s with
  | [a, b] => if inB a 0 3000 = true ∧ inB b 0 9 = true ∧ (rainT (10 * a + b)).data.toList = s.data.toList then some (10 * a + b) else none
  | _ => none
theorem rrO_two {s : ByteArray} {a b : Int} (h : numsB s = [a, b]) : rrO s = if inB a 0 3000 = true ∧ inB b 0 9 = true ∧ (rainT (10 * a + b)).data.toList = s.data.toList then some (10 * a + b) else none := by rw [rrO, h]
theorem rrO_not {s : ByteArray} (h : (numsB s).length ≠ 2) : rrO s = none := by
  unfold rrO
  split
  · rename_i hP; rw [hP] at h; exact absurd rfl h
  · rfl
theorem rain_b (n : Int) (w : World) : Calls Tryd.prog 45 #[.int .i64 n] w fun e w' => e = .returned (.bool (inB n 0 3000)) ∧ Below w.heap.size w w' :=
  (rain_c n w).mono fun _ _ ⟨h, k⟩ => ⟨h, by subst k; exact Below.refl _ _⟩
theorem in_b9 (n a b : Int) (w : World) : Calls Tryd.prog 68 #[.int .i64 n, .int .i64 a, .int .i64 b] w fun e w' => e = .returned (.bool (inB n a b)) ∧ Below w.heap.size w w' :=
  (in_c n a b w).mono fun _ _ ⟨h, k⟩ => ⟨h, by subst k; exact Below.refl _ _⟩
set_option maxHeartbeats 4000000 in
set_option maxRecDepth 100000 in
theorem ReadRain_c (s : ByteArray) (hs : s.size ≤ 1048576) (w : World) (hW : RdW w) : Calls Tryd.prog 31 #[.string s] w fun e w' => e = .returned (.tuple #[.int .i64 (optI (rrO s)), .bool (optB (rrO s))]) ∧ Below w.heap.size w w' := by
  have HW := Lib.hid hW
  clear hW
  by_cases hP : (numsB s).length = 2
  · obtain ⟨a, b, hPP⟩ : ∃ a b, numsB s = [a, b] := by
      match h : numsB s, hP with
      | [a, b], _ => exact ⟨a, b, rfl⟩
    have HPP := Lib.hid hPP
    clear hP hPP
    cases h1 : inB a 0 3000
    · have HV := Lib.hid (show rrO s = none by rw [rrO_two HPP.out]; exact if_neg (fun h => by have := h.1; rw [h1] at this; cases this))
      go_enter Tryd.func31, Tryd.ntmps31
      go_wp2_with fail
      refine (numbersIn_c s hs _ HW.out).mono ?_
      rintro e w1 ⟨v, rfl, ho, hb⟩
      have HB := Lib.hid hb
      have HPW := Lib.hid (HW.out.pow.below hb)
      have hsz1 := hb.size
      clear hb
      rw [HPP.out] at ho
      obtain ⟨D, c, rfl⟩ := own_form ho
      obtain ⟨bk, off, rfl, hbb, hc⟩ := (Own.rd_ len_x1 ho rfl).at1 (k := 0) (by simp)
      have k0 := hc 0 _ rfl
      have k1 := hc 1 _ rfl
      simp only [Nat.add_zero] at k0
      clear hc ho
      have k0q := fun d os => cell_regrown k0 d os
      have k1q := fun d os => cell_regrown k1 d os
      go_wp2
      refine wp_region_quiet_below (by kernel_rfl) (by kernel_rfl) ?_
      repeat (go_big_quiet_step (first | (go_at_call 45; exact Calls.regrown_of (rain_b _ _)) | (go_at_call 68; exact Calls.regrown_of (in_b9 _ _ _ _)) | (go_at_call 13; exact Calls.regrown_of (RainText_c _ _ (HPW.out.below (below_regrown _ _ _))))))
      refine wpQuiet_nil ?_
      intro _ hw'
      obtain ⟨⟨dq, osq⟩, hw''⟩ := hw'
      subst hw''
      have hbq := below_regrown w1 dq osq
      generalize Sort.grow (redrawn w1 dq) osq = wq at *
      have HBQ := Lib.hid (bel_call HB.out hbq hsz1)
      clear hbq
      go_wp2
      go_ret2
      exact ⟨by rw [HV.out]; rfl, HBQ.out⟩
    · have r1 := inB_iff.1 h1
      cases h2 : inB b 0 9
      · have HV := Lib.hid (show rrO s = none by rw [rrO_two HPP.out]; exact if_neg (fun h => by have := h.2.1; rw [h2] at this; cases this))
        go_enter Tryd.func31, Tryd.ntmps31
        go_wp2_with fail
        refine (numbersIn_c s hs _ HW.out).mono ?_
        rintro e w1 ⟨v, rfl, ho, hb⟩
        have HB := Lib.hid hb
        have HPW := Lib.hid (HW.out.pow.below hb)
        have hsz1 := hb.size
        clear hb
        rw [HPP.out] at ho
        obtain ⟨D, c, rfl⟩ := own_form ho
        obtain ⟨bk, off, rfl, hbb, hc⟩ := (Own.rd_ len_x1 ho rfl).at1 (k := 0) (by simp)
        have k0 := hc 0 _ rfl
        have k1 := hc 1 _ rfl
        simp only [Nat.add_zero] at k0
        clear hc ho
        have k0q := fun d os => cell_regrown k0 d os
        have k1q := fun d os => cell_regrown k1 d os
        go_wp2
        refine wp_region_quiet_below (by kernel_rfl) (by kernel_rfl) ?_
        repeat (go_big_quiet_step (first | (go_at_call 45; exact Calls.regrown_of (rain_b _ _)) | (go_at_call 68; exact Calls.regrown_of (in_b9 _ _ _ _)) | (go_at_call 13; exact Calls.regrown_of (RainText_c _ _ (HPW.out.below (below_regrown _ _ _))))))
        refine wpQuiet_nil ?_
        intro _ hw'
        obtain ⟨⟨dq, osq⟩, hw''⟩ := hw'
        subst hw''
        have hbq := below_regrown w1 dq osq
        generalize Sort.grow (redrawn w1 dq) osq = wq at *
        have HBQ := Lib.hid (bel_call HB.out hbq hsz1)
        clear hbq
        go_wp2
        go_ret2
        exact ⟨by rw [HV.out]; rfl, HBQ.out⟩
      · have r2 := inB_iff.1 h2
        have i1 : IntKind.i64.wrap (10 * a) = 10 * a := by rw [IntWalk.i64_in _ (by omega)]
        have i2 : IntKind.i64.wrap (10 * a + b) = 10 * a + b := by rw [IntWalk.i64_in _ (by omega)]
        by_cases hq : (rainT (10 * a + b)).data.toList = s.data.toList
        · have hqq : ((rainT (10 * a + b)).toList == s.toList) = true := str_eq hq
          have HV := Lib.hid (show rrO s = some (10 * a + b) by rw [rrO_two HPP.out]; exact if_pos ⟨h1, h2, hq⟩)
          clear hq
          go_enter Tryd.func31, Tryd.ntmps31
          go_wp2_with fail
          refine (numbersIn_c s hs _ HW.out).mono ?_
          rintro e w1 ⟨v, rfl, ho, hb⟩
          have HB := Lib.hid hb
          have HPW := Lib.hid (HW.out.pow.below hb)
          have hsz1 := hb.size
          clear hb
          rw [HPP.out] at ho
          obtain ⟨D, c, rfl⟩ := own_form ho
          obtain ⟨bk, off, rfl, hbb, hc⟩ := (Own.rd_ len_x1 ho rfl).at1 (k := 0) (by simp)
          have k0 := hc 0 _ rfl
          have k1 := hc 1 _ rfl
          simp only [Nat.add_zero] at k0
          clear hc ho
          have k0q := fun d os => cell_regrown k0 d os
          have k1q := fun d os => cell_regrown k1 d os
          go_wp2
          refine wp_region_quiet_below (by kernel_rfl) (by kernel_rfl) ?_
          repeat (go_big_quiet_step (first | (go_at_call 45; exact Calls.regrown_of (rain_b _ _)) | (go_at_call 68; exact Calls.regrown_of (in_b9 _ _ _ _)) | (go_at_call 13; exact Calls.regrown_of (RainText_c _ _ (HPW.out.below (below_regrown _ _ _))))))
          refine wpQuiet_nil ?_
          intro _ hw'
          obtain ⟨⟨dq, osq⟩, hw''⟩ := hw'
          subst hw''
          have hbq := below_regrown w1 dq osq
          generalize Sort.grow (redrawn w1 dq) osq = wq at *
          have HBQ := Lib.hid (bel_call HB.out hbq hsz1)
          have m0 := kc hbq k0
          have m1 := kc hbq k1
          clear hbq
          go_wp2
          go_quiet (fail)
          go_wp2
          go_ret2
          exact ⟨by rw [HV.out]; rfl, bel_dN HBQ.out _⟩
        · have hqq : ((rainT (10 * a + b)).toList == s.toList) = false := str_ne hq
          have HV := Lib.hid (show rrO s = none by rw [rrO_two HPP.out]; exact if_neg (fun h => hq h.2.2))
          clear hq
          go_enter Tryd.func31, Tryd.ntmps31
          go_wp2_with fail
          refine (numbersIn_c s hs _ HW.out).mono ?_
          rintro e w1 ⟨v, rfl, ho, hb⟩
          have HB := Lib.hid hb
          have HPW := Lib.hid (HW.out.pow.below hb)
          have hsz1 := hb.size
          clear hb
          rw [HPP.out] at ho
          obtain ⟨D, c, rfl⟩ := own_form ho
          obtain ⟨bk, off, rfl, hbb, hc⟩ := (Own.rd_ len_x1 ho rfl).at1 (k := 0) (by simp)
          have k0 := hc 0 _ rfl
          have k1 := hc 1 _ rfl
          simp only [Nat.add_zero] at k0
          clear hc ho
          have k0q := fun d os => cell_regrown k0 d os
          have k1q := fun d os => cell_regrown k1 d os
          go_wp2
          refine wp_region_quiet_below (by kernel_rfl) (by kernel_rfl) ?_
          repeat (go_big_quiet_step (first | (go_at_call 45; exact Calls.regrown_of (rain_b _ _)) | (go_at_call 68; exact Calls.regrown_of (in_b9 _ _ _ _)) | (go_at_call 13; exact Calls.regrown_of (RainText_c _ _ (HPW.out.below (below_regrown _ _ _))))))
          refine wpQuiet_nil ?_
          intro _ hw'
          obtain ⟨⟨dq, osq⟩, hw''⟩ := hw'
          subst hw''
          have hbq := below_regrown w1 dq osq
          generalize Sort.grow (redrawn w1 dq) osq = wq at *
          have HBQ := Lib.hid (bel_call HB.out hbq hsz1)
          clear hbq
          go_wp2
          go_ret2
          exact ⟨by rw [HV.out]; rfl, HBQ.out⟩
  · have HV := Lib.hid (rrO_not hP)
    have b0 : (((numsB s).length : Int) != 2) = true := bne_iff_ne.2 (by omega)
    clear hP
    go_enter Tryd.func31, Tryd.ntmps31
    go_wp2_with fail
    refine (numbersIn_c s hs _ HW.out).mono ?_
    rintro e w1 ⟨v, rfl, ho, hb⟩
    have HB := Lib.hid hb
    have HPW := Lib.hid (HW.out.pow.below hb)
    have hsz1 := hb.size
    clear hb
    obtain ⟨D, c, rfl⟩ := own_form ho
    clear ho
    go_wp2
    refine wp_region_quiet_below (by kernel_rfl) (by kernel_rfl) ?_
    repeat (go_big_quiet_step (first | (go_at_call 45; exact Calls.regrown_of (rain_b _ _)) | (go_at_call 68; exact Calls.regrown_of (in_b9 _ _ _ _)) | (go_at_call 13; exact Calls.regrown_of (RainText_c _ _ (HPW.out.below (below_regrown _ _ _))))))
    refine wpQuiet_nil ?_
    intro _ hw'
    obtain ⟨⟨dq, osq⟩, hw''⟩ := hw'
    subst hw''
    have hbq := below_regrown w1 dq osq
    generalize Sort.grow (redrawn w1 dq) osq = wq at *
    have HBQ := Lib.hid (bel_call HB.out hbq hsz1)
    clear hbq
    go_wp2
    go_ret2
    exact ⟨by rw [HV.out]; rfl, HBQ.out⟩

def rainL (x : Int) : List UInt8 := Lib.itoa (x / 10) ++ 46 :: (Lib.itoa (x % 10) ++ [109, 109])
theorem rainS_list (x : Int) : (rainS x).data.toList = rainL x := by
  simp [rainS, rainL, decS]
theorem rd_of {A : ByteArray} {v : Int} (h : numO A.data.toList = some v) : rdB A = true ∧ rdI A = v := by unfold rdB rdI; rw [h]; exact ⟨rfl, rfl⟩
theorem rd_back {A : ByteArray} (h : rdB A = true) : Lib.itoa (rdI A) = A.data.toList := by
  unfold rdB at h
  cases hn : numO A.data.toList with
  | none => rw [hn] at h; cases h
  | some v => rw [(rd_of hn).2]; exact ((numO_iff _ _).1 hn).1
theorem num_itoa {v : Int} (h : v.natAbs < 10 ^ 18) : numO (Lib.itoa v) = some v := (numO_iff _ _).2 ⟨rfl, h⟩
theorem itoa_one {d : Int} (h0 : 0 ≤ d) (h1 : d ≤ 9) : Lib.itoa d = [UInt8.ofNat (48 + d.toNat)] := by
  rw [itoa_nn h0, dec_small (by omega)]
theorem itoa_dig {v : Int} (h : 0 ≤ v) : (Lib.itoa v).all digC = true ∧ 0 < (Lib.itoa v).length := by
  rw [itoa_nn h]; exact ⟨dec_all _, dec_pos _⟩
theorem dig_not {w : List UInt8} (h : w.all digC = true) {b : UInt8} (hb : digC b = false) : ∀ x ∈ w, x ≠ b := fun x hx e => by
  have := List.all_eq_true.1 h x hx
  rw [e, hb] at this; cases this
theorem dig_num {w : List UInt8} (h : w.all digC = true) : w.all (fun x => !nonNum x.toNat) = true := by
  rw [List.all_eq_true] at h ⊢
  intro x hx
  have := h x hx
  simp only [digC, decide_eq_true_eq] at this
  simp only [nonNum, Bool.not_eq_true', decide_eq_false_iff_not]
  omega
theorem dig_ascii {w : List UInt8} (h : w.all digC = true) : ∀ c ∈ w, c.toNat < 128 := fun c hc => by
  have := List.all_eq_true.1 h c hc
  simp only [digC, decide_eq_true_eq] at this
  omega
theorem two_of {P : List ByteArray} {a b : List UInt8} (h : P.map (fun x => x.data.toList) = [a, b]) : ∃ A B, P = [A, B] ∧ A.data.toList = a ∧ B.data.toList = b := by
  match P, h with
  | [A, B], h => simp at h; exact ⟨A, B, rfl, h.1, h.2⟩
theorem lrO_iff (s : ByteArray) (x : Int) : lrO s = some x ↔ inB x 0 3000 = true ∧ rainL x = s.data.toList := by
  constructor
  · intro h
    by_cases hP : (ptAll 46 s).length = 2
    · obtain ⟨A, C, hPP⟩ : ∃ A C, ptAll 46 s = [A, C] := by
        match h : ptAll 46 s, hP with
        | [A, C], _ => exact ⟨A, C, rfl⟩
      rw [lrO_two hPP] at h
      split at h
      · rename_i hc
        injection h with h
        obtain ⟨c1, c2, c3, c4, c5, c6⟩ := hc
        have hC0 : 0 < C.size := by omega
        have hj := sp_join 46 s.data.toList []
        rw [← pt_sp, hPP] at hj
        simp only [List.map_cons, List.map_nil, joinB, List.nil_append] at hj
        have hd : 48 ≤ (C.get! 0).toNat ∧ (C.get! 0).toNat ≤ 57 := by simpa [digC] using c3
        have hCl : C.data.toList = (C.get! 0) :: [109, 109] := by
          have h0 := at_list C hC0
          rw [← get_bang hC0] at h0
          rw [ext_list, List.take_of_length_le (by rw [List.length_drop, ← Lib.size_eq]; omega)] at c2
          cases hl : C.data.toList with
          | nil => rw [hl] at h0; cases h0
          | cons a r => rw [hl] at h0 c2; simp at h0 c2; rw [← h0, c2]
        have hx : dg0 C = ((C.get! 0).toNat : Int) - 48 := rfl
        have hr := inB_iff.1 c5
        refine ⟨by rw [← h]; exact c6, ?_⟩
        have e1 : x / 10 = rdI A := by omega
        have e2 : x % 10 = ((C.get! 0).toNat : Int) - 48 := by omega
        rw [rainL, e1, e2, rd_back c4, itoa_one (by omega) (by omega), ← hj, hCl]
        have e3 : UInt8.ofNat (48 + (((C.get! 0).toNat : Int) - 48).toNat) = C.get! 0 := by
          rw [show 48 + (((C.get! 0).toNat : Int) - 48).toNat = (C.get! 0).toNat by omega]
          exact UInt8.ofNat_toNat
        rw [e3]; rfl
      · cases h
    · rw [lrO_not hP] at h; cases h
  · rintro ⟨hi, hl⟩
    have hr := inB_iff.1 hi
    obtain ⟨d1, d2⟩ := itoa_dig (v := x / 10) (by omega)
    obtain ⟨d3, d4⟩ := itoa_dig (v := x % 10) (by omega)
    have hsp : (ptAll 46 s).map (fun x => x.data.toList) = [Lib.itoa (x / 10), Lib.itoa (x % 10) ++ [109, 109]] := by
      rw [pt_sp, ← hl, rainL, sp_word _ _ _ (dig_not d1 (by decide)), sp_sep]
      have h2 : ∀ y ∈ Lib.itoa (x % 10) ++ [109, 109], y ≠ (46 : UInt8) := by
        intro y hy
        rw [List.mem_append] at hy
        rcases hy with hy | hy
        · exact dig_not d3 (by decide) y hy
        · simp at hy; rw [hy]; decide
      have := sp_word (b := 46) (Lib.itoa (x % 10) ++ [109, 109]) [] [] h2
      rw [List.append_nil] at this
      rw [this, sp]; rfl
    obtain ⟨A, C, hPP, hA, hC⟩ := two_of hsp
    rw [itoa_one (d := x % 10) (by omega) (by omega)] at hC
    have hsz : C.size = 3 := by rw [Lib.size_eq, hC]; rfl
    have hC0 : 0 < C.size := by omega
    have hg : C.get! 0 = UInt8.ofNat (48 + (x % 10).toNat) := by
      have h0 := at_list C hC0
      rw [hC] at h0
      rw [get_bang hC0]
      exact (Option.some.inj h0).symm
    have hgn : (C.get! 0).toNat = 48 + (x % 10).toNat := by rw [hg]; exact toNat_ofNat (by omega)
    have hn := num_itoa (v := x / 10) (by omega)
    rw [← hA] at hn
    obtain ⟨n1, n2⟩ := rd_of hn
    have hdg : dg0 C = x % 10 := by unfold dg0; rw [hgn]; omega
    rw [lrO_two hPP, if_pos]
    · rw [n2, hdg]; congr 1; omega
    · refine ⟨hsz, ?_, by rw [hg]; exact digC_ofNat (by omega), n1, by rw [n2]; exact inB_iff.2 (by omega), by rw [n2, hdg]; exact inB_iff.2 (by omega)⟩
      rw [ext_list, hC, hsz]; rfl
theorem rrO_iff (s : ByteArray) (x : Int) : rrO s = some x ↔ inB x 0 3000 = true ∧ rainL x = s.data.toList := by
  constructor
  · intro h
    by_cases hP : (numsB s).length = 2
    · obtain ⟨a, b, hPP⟩ : ∃ a b, numsB s = [a, b] := by
        match h : numsB s, hP with
        | [a, b], _ => exact ⟨a, b, rfl⟩
      rw [rrO_two hPP] at h
      split at h
      · rename_i hc
        injection h with h
        rw [h] at hc
        unfold rainT at hc
        cases hi : inB x 0 3000
        · rw [hi] at hc
          have hnil : s.data.toList = [] := hc.2.2.symm
          have hf := goFields_ascii nonNum s (by rw [hnil]; intro c hc; cases hc)
          rw [hnil, fl] at hf
          have hf2 : fldB s = [] := List.map_eq_nil_iff.1 hf
          rw [numsB, hf2] at hPP
          cases hPP
        · rw [hi, if_pos rfl, rainS_list] at hc
          exact ⟨rfl, hc.2.2⟩
      · cases h
    · rw [rrO_not hP] at h; cases h
  · rintro ⟨hi, hl⟩
    have hr := inB_iff.1 hi
    obtain ⟨d1, d2⟩ := itoa_dig (v := x / 10) (by omega)
    obtain ⟨d3, d4⟩ := itoa_dig (v := x % 10) (by omega)
    have hf := goFields_ascii nonNum s (by
      rw [← hl, rainL]
      intro c hc
      simp only [List.mem_append, List.mem_cons, List.not_mem_nil, or_false] at hc
      rcases hc with hc | hc | hc | hc | hc
      · exact dig_ascii d1 c hc
      · rw [hc]; decide
      · exact dig_ascii d3 c hc
      · rw [hc]; decide
      · rw [hc]; decide)
    rw [← hl, rainL, fl_word _ d2 (dig_num d1), fl_sep (by decide), fl_word _ d4 (dig_num d3), fl_sep (by decide), fl_sep0 (by decide), fl] at hf
    obtain ⟨A, B, hAB, hA, hB⟩ := two_of (P := fldB s) hf
    have ha := num_itoa (v := x / 10) (by omega)
    have hb := num_itoa (v := x % 10) (by omega)
    rw [← hA] at ha
    rw [← hB] at hb
    have hnb : numsB s = [x / 10, x % 10] := by
      rw [numsB, hAB]
      simp [(rd_of ha).1, (rd_of ha).2, (rd_of hb).1, (rd_of hb).2]
    have e : 10 * (x / 10) + x % 10 = x := by omega
    rw [rrO_two hnb, e, if_pos]
    exact ⟨inB_iff.2 (by omega), inB_iff.2 (by omega), by rw [rainT, hi, if_pos rfl, rainS_list]; exact hl⟩
theorem rain_same (s : ByteArray) : rrO s = lrO s := by
  cases h : lrO s with
  | none =>
    cases h2 : rrO s with
    | none => rfl
    | some v => rw [(lrO_iff s v).2 ((rrO_iff s v).1 h2)] at h; cases h
  | some v => exact (rrO_iff s v).2 ((lrO_iff s v).1 h)

end Go.Proofs.YtcdpgdpabmlpdaaDoor
