/- The walks of FewestMills. -/
import Derived.Test.YtbaffjjafkpcfaaFew
namespace Go.Proofs.Ytbaffjjafkpcfaa
open Go.RowKit

/-- the subsets as the program holds them -/
def subF (n : Nat) (j : Nat) : List Int := rowI ((subT n).getD j [])
theorem own_nonec {α : Type} {enc : α → List Value} {sz base n c : Nat} {E : TypeId} {A : Option Addr} {L : List α} {w : World} (h : Own enc sz w base E (.slice A n c) L) : A = none → c = 0 := fun hA => by
  rcases h.2 with ⟨e, _⟩ | ⟨g, cap, cur, e, _⟩
  · injection e
  · injection e with e1; rw [hA] at e1; cases e1
theorem rows_push (LL : List (List Nat)) (k : List Nat) (j m : Nat) (hm : m = LL.length) (h : j < m + 1) : (if j < m then rowI (LL.getD j []) else rowI k) = rowI ((LL ++ [k]).getD j []) := by
  subst hm
  by_cases e : j < LL.length
  · rw [if_pos e, List.getD, List.getD, List.getElem?_append_left e]
  · rw [if_neg e, List.getD, List.getElem?_append_right (by omega), show j - LL.length = 0 by omega]; rfl
theorem kids_take {n : Nat} {l : List Nat} {x : Nat} (h1 : nextOf l ≤ x) (h2 : x < n) : (kids n l).take (x + 1 - nextOf l) = (kids n l).take (x - nextOf l) ++ [l ++ [x]] := by
  have hk : x - nextOf l < (kids n l).length := by rw [kids_len]; omega
  rw [show x + 1 - nextOf l = (x - nextOf l) + 1 by omega, List.take_succ_eq_append_getElem hk]
  congr 2
  simp only [kids, List.getElem_map, List.getElem_range']
  rw [show nextOf l + 1 * (x - nextOf l) = x by omega]
theorem ownV_first (w : World) : OwnV e1 1 ((w.alloc (.cells #[] 2)).alloc (.cells #[.slice (some ⟨w.heap.size, 0, none⟩) 0 0] 22)) w.heap.size ((w.alloc (.cells #[] 2)).alloc (.cells #[.slice (some ⟨w.heap.size, 0, none⟩) 0 0] 22)).heap.size 2 22 (.slice (some ⟨w.heap.size + 1, 0, none⟩) 1 1) [.slice (some ⟨w.heap.size, 0, none⟩) 0 0] (fun j => rowI ((qs 0 0).getD j [])) := by
  have e1' : (w.alloc (.cells #[] 2)).heap.size = w.heap.size + 1 := by simp
  have hbk := Blk.new (w.alloc (.cells #[] 2)) 22 #[.slice (some ⟨w.heap.size, 0, none⟩) 0 0]
  rw [e1'] at hbk
  have ho : Own ev 1 ((w.alloc (.cells #[] 2)).alloc (.cells #[.slice (some ⟨w.heap.size, 0, none⟩) 0 0] 22)) w.heap.size 22 (.slice (some ⟨w.heap.size + 1, 0, none⟩) 1 1) [.slice (some ⟨w.heap.size, 0, none⟩) 0 0] :=
    Blk.own (L := [Value.slice (some ⟨w.heap.size, 0, none⟩) 0 0]) len_ev hbk (by omega) (by unfold maxLen; simp)
  have hu : Own e1 1 ((w.alloc (.cells #[] 2)).alloc (.cells #[.slice (some ⟨w.heap.size, 0, none⟩) 0 0] 22)) w.heap.size 2 (.slice (some ⟨w.heap.size, 0, none⟩) 0 0) ([] : List Int) := (own_empty w 2).call (below_alloc1 _ _)
  refine OwnV.made ho (fun k u hk => ?_) (fun k u hk => ?_)
  · have h0 : k = 0 := by have := (List.getElem?_eq_some_iff.1 hk).1; simp at this; omega
    subst h0
    simp only [List.getElem?_cons_zero, Option.some.injEq] at hk
    subst hk
    exact ⟨hu, fun j u' hj => absurd hj (by omega)⟩
  · have h0 : k = 0 := by have := (List.getElem?_eq_some_iff.1 hk).1; simp at this; omega
    subst h0
    simp only [List.getElem?_cons_zero, Option.some.injEq] at hk
    subst hk
    right
    simp [Value.ownBlock]

theorem lastJ_c (A : Option Addr) (c : Nat) (L : List Int) (w : World) (hR : Rd e1 1 w w.heap.size A L) (h0 : 0 < L.length) (hn : L.length ≤ 1000000) :
    Calls Try.prog 71 #[.slice A L.length c] w fun e w' => e = .returned (.int .i64 (lastM L)) ∧ w = w' := (lastI_c A c L w hR h0 hn).mono fun _ _ ⟨h, k⟩ => ⟨h, k.symm⟩

set_option maxHeartbeats 8000000 in
set_option maxRecDepth 100000 in
theorem subsets_c (n : Nat) (w : World) (h1 : 1 ≤ n) (h8 : n ≤ 8) :
    Calls Try.prog 60 #[.int .i64 n] w fun e w' => ∃ v, e = .returned v ∧ ∃ vs, vs.length = (subT n).length ∧ OwnV e1 1 w' w.heap.size w'.heap.size 2 22 v vs (subF n) ∧ Below w.heap.size w w' := by
  obtain ⟨f1, f2, f3⟩ := qs_end h1 h8
  have hp := pow2_le h8
  have F1 := Lib.hid f1
  have F2 := Lib.hid f2
  have F3 := Lib.hid f3
  have HF := Lib.hid (ownV_first w)
  have HB0 := Lib.hid (bel_call (below_alloc1 w (.cells #[] 2)) (below_alloc1 _ (.cells #[.slice (some ⟨w.heap.size, 0, none⟩) 0 0] 22)) (below_alloc1 w (.cells #[] 2)).size)
  clear f1 f2 f3
  generalize hpw : pow2 n = p2 at *
  clear hpw
  go_enter Try.func60, Try.ntmps60
  go_wp2
  go_loopw [3, 4] (fun v j wr => ∃ (i : Nat) (vs : List Value), i ≤ p2 ∧ j = .int .i64 (i : Int) ∧ Hid (vs.length = (qs n i).length) ∧ OwnV e1 1 wr w.heap.size wr.heap.size 2 22 v vs (fun j => rowI ((qs n i).getD j [])) ∧ Below w.heap.size w wr) (fun _ j _ => p2 - (intOf j).toNat)
  case atStart => exact ⟨0, [_], Nat.zero_le _, rfl, Lib.hid rfl, HF.out, HB0.out⟩
  case round =>
    clear HF HB0
    obtain ⟨i, vs, hi, rfl, HVL, hO, hb⟩ := hrel
    have hsz := hb.size
    have hql : (qs n i).length ≤ 2049 := by
      have h1' := qs_len n i
      have h2' : n * i ≤ 8 * 256 := Nat.mul_le_mul h8 (by omega)
      omega
    have HO := Lib.hid hO
    have HB := Lib.hid hb
    by_cases hlt : i < p2
    · have hq : i < (qs n i).length := F1.out i hlt
      have hil : i < vs.length := by rw [HVL.out]; exact hq
      have hvl : vs.length ≤ 2049 := by rw [HVL.out]; exact hql
      obtain ⟨Av, cv, rfl⟩ := hO.form
      obtain ⟨hui, _⟩ := hO.inner i _ (get_at hil)
      obtain ⟨l, hl⟩ : ∃ l, (qs n i).getD i [] = l := ⟨_, rfl⟩
      have hgood : l.length ≤ i ∧ ∀ x ∈ l, x < n := by rw [← hl, getD_at (get_at hq)]; exact qs_good n i _ (List.getElem_mem hq)
      have hnx := nextOf_le hgood.2
      have hg1 := hgood.1
      have HK := Lib.hid (show qs n (i + 1) = qs n i ++ kids n l by rw [qs, hl])
      have HLE := Lib.hid hl
      replace hui : Own e1 1 wr w.heap.size 2 vs[i] (rowI l) := by rw [← hl]; exact hui
      obtain ⟨Au, cu, hue⟩ := own_form hui
      rw [hue] at hui
      obtain ⟨g, og, hA, hg, hcc⟩ := Own.rd_ len_ev hO.outer rfl (by omega)
      have o0 := hcc i hil 0 _ rfl
      rw [Nat.mul_one, Nat.add_zero, hue] at o0
      subst hA
      have j1 : (0 : Int) ≤ (i : Int) := by omega
      have j2 : (i : Int) < (vs.length : Int) := by omega
      have HRU := Lib.hid (Own.rd_ len_x1 hui rfl)
      have HRL := Lib.hid (rowI_len l)
      have hll : (rowI l).length ≤ 1000 := by rw [rowI_len]; omega
      clear hcc hui hue hO hb hl hgood
      by_cases hl0 : 0 < l.length
      · have hp0 : 0 < (rowI l).length := by rw [HRL.out]; exact hl0
        have hp1 : (0 : Int) < ((rowI l).length : Int) := by omega
        have HNX := Lib.hid (nextOf_last hl0)
        have hlb : (nextOf l : Int) ≤ 8 := by omega
        rw [HNX.out] at hlb
        have hlb0 : 0 ≤ lastM (rowI l) + 1 := by rw [← HNX.out]; omega
        go_wp2_with fail
        refine (lastJ_c _ _ (rowI l) _ HRU.out hp0 (by omega)).mono ?_
        rintro e w' ⟨rfl, rfl⟩
        clear HRU o0
        go_wp2
        obtain ⟨wo, hwo⟩ : ∃ wo : World, wo = wr := ⟨_, rfl⟩
        subst hwo
        go_loopw [3, 5] (fun v j wi => ∃ (x : Nat) (us : List Value), nextOf l ≤ x ∧ x ≤ n ∧ j = .int .i64 (x : Int) ∧ Hid (us.length = (qs n i).length + (x - nextOf l)) ∧ OwnV e1 1 wi w.heap.size wi.heap.size 2 22 v us (fun j => rowI ((qs n i ++ (kids n l).take (x - nextOf l)).getD j [])) ∧ Below w.heap.size w wi) (fun _ j _ => n - (intOf j).toNat)
        case atStart => exact ⟨nextOf l, vs, Nat.le_refl _, hnx, by rw [HNX.out], Lib.hid (by rw [HVL.out]; omega), by rw [Nat.sub_self, List.take_zero, List.append_nil]; exact HO.out, HB.out⟩
        case round =>
          obtain ⟨x, us, hx1, hx2, rfl, HUL, hO2, hb2⟩ := hrel
          have hsi := hb2.size
          have hul : us.length ≤ 4000 := by have := HUL.out; omega
          by_cases hlt2 : x < n
          · obtain ⟨Aw, cw, rfl⟩ := hO2.form
            have hiu : i < us.length := by have := HUL.out; omega
            obtain ⟨hui2, _⟩ := hO2.inner i _ (get_at hiu)
            replace hui2 : Own e1 1 wr w.heap.size 2 us[i] (rowI l) := by
              have e : (qs n i ++ (kids n l).take (x - nextOf l)).getD i [] = l := by rw [← HLE.out, List.getD, List.getD, List.getElem?_append_left hq]
              rw [← e]; exact hui2
            obtain ⟨Ax, cx, hxe⟩ := own_form hui2
            rw [hxe] at hui2
            obtain ⟨gx, ogx, hAx, hgx, hcx⟩ := Own.rd_ len_ev hO2.outer rfl (by omega)
            have o1 := hcx i hiu 0 _ rfl
            rw [Nat.mul_one, Nat.add_zero, hxe] at o1
            subst hAx
            have j1 : (0 : Int) ≤ (i : Int) := by omega
            have j2 : (i : Int) < (us.length : Int) := by omega
            have HRX := Lib.hid (Own.rd_ len_x1 hui2 rfl)
            have hnc := own_nonec hui2
            have hll : (rowI l).length ≤ 1000 := by rw [rowI_len]; omega
            have HO2 := Lib.hid hO2
            have HB2 := Lib.hid hb2
            have HLX := Lib.hid (rowI_snoc l x)
            have HKT := Lib.hid (kids_take hx1 hlt2)
            obtain ⟨l2, hl2⟩ : ∃ l2, l ++ [x] = l2 := ⟨_, rfl⟩
            have HL2 := Lib.hid hl2
            clear hcx hui2 hxe hO2 hb2 hl2
            go_wp2_with fail
            refine (cloneI_c _ _ (rowI l) _ _ HRX.out hnc (by omega)).mono ?_
            rintro e w1 ⟨v1, rfl, ho1, hb1⟩
            have HO1 := Lib.hid ho1
            have HB1 := Lib.hid hb1
            clear ho1 hb1
            go_wp2_with (first | (at_builtin; refine appInt64 _ _ rfl rfl _ (rowI l) (x : Int) rfl HO1.out HB1.out rfl (by simp) (by omega) ?_; intro v2 w2 hown2 hbw2; rw [← HLX.out, HL2.out] at hown2; obtain ⟨A2, c2, e2'⟩ := own_form hown2; subst e2'; have HOW2 := Lib.hid hown2; have HBW2 := Lib.hid hbw2; clear hown2 hbw2) | (at_builtin; refine appVInt64 _ _ rfl rfl _ us A2 (rowI l2).length c2 rfl (HO2.out.outer.call HBW2.out) (bel_call HB2.out HBW2.out hsi) rfl (by simp) (by omega) ?_; intro v3 w3 hown3 hb3 hg3 hat3; have HO3 := Lib.hid (HO2.out.push hsi HBW2.out HOW2.out hown3 hg3 hat3); have HB3 := Lib.hid hb3; clear hown3 hb3 hg3 hat3))
            go_roundw
            case rel => exact ⟨x + 1, us ++ [.slice A2 (rowI l2).length c2], by omega, by omega, by go_num, Lib.hid (by rw [List.length_append, HUL.out, List.length_singleton]; omega), HO3.out.congr (fun j hj => by rw [HKT.out, HL2.out, ← List.append_assoc]; exact rows_push _ l2 j us.length (by rw [HUL.out, List.length_append, List.length_take, kids_len]; omega) (by simpa using hj)), HB3.out⟩
            case measure => simp [intOf]; omega
          · obtain rfl : x = n := by omega
            have HEND := Lib.hid (show (kids x l).take (x - nextOf l) = kids x l by rw [List.take_of_length_le (by rw [kids_len]; omega)])
            rw [HEND.out, ← HK.out] at hO2
            go_wp2
            go_roundw
            case rel => exact ⟨i + 1, us, by omega, by go_num, Lib.hid (by rw [HK.out, List.length_append, kids_len, HUL.out]), hO2, hb2⟩
            case measure => simp [intOf]; omega
      · have hl00 : l = [] := List.eq_nil_of_length_eq_zero (by omega)
        have HN0 := Lib.hid (show nextOf l = 0 by rw [hl00]; rfl)
        have hp1 : ¬ (0 : Int) < ((rowI l).length : Int) := by rw [HRL.out]; omega
        clear hl00 HRU
        go_wp2
        clear o0
        obtain ⟨wo, hwo⟩ : ∃ wo : World, wo = wr := ⟨_, rfl⟩
        subst hwo
        go_loopw [3, 5] (fun v j wi => ∃ (x : Nat) (us : List Value), nextOf l ≤ x ∧ x ≤ n ∧ j = .int .i64 (x : Int) ∧ Hid (us.length = (qs n i).length + (x - nextOf l)) ∧ OwnV e1 1 wi w.heap.size wi.heap.size 2 22 v us (fun j => rowI ((qs n i ++ (kids n l).take (x - nextOf l)).getD j [])) ∧ Below w.heap.size w wi) (fun _ j _ => n - (intOf j).toNat)
        case atStart => exact ⟨nextOf l, vs, Nat.le_refl _, hnx, by rw [HN0.out]; rfl, Lib.hid (by rw [HVL.out]; omega), by rw [Nat.sub_self, List.take_zero, List.append_nil]; exact HO.out, HB.out⟩
        case round =>
          obtain ⟨x, us, hx1, hx2, rfl, HUL, hO2, hb2⟩ := hrel
          have hsi := hb2.size
          have hul : us.length ≤ 4000 := by have := HUL.out; omega
          by_cases hlt2 : x < n
          · obtain ⟨Aw, cw, rfl⟩ := hO2.form
            have hiu : i < us.length := by have := HUL.out; omega
            obtain ⟨hui2, _⟩ := hO2.inner i _ (get_at hiu)
            replace hui2 : Own e1 1 wr w.heap.size 2 us[i] (rowI l) := by
              have e : (qs n i ++ (kids n l).take (x - nextOf l)).getD i [] = l := by rw [← HLE.out, List.getD, List.getD, List.getElem?_append_left hq]
              rw [← e]; exact hui2
            obtain ⟨Ax, cx, hxe⟩ := own_form hui2
            rw [hxe] at hui2
            obtain ⟨gx, ogx, hAx, hgx, hcx⟩ := Own.rd_ len_ev hO2.outer rfl (by omega)
            have o1 := hcx i hiu 0 _ rfl
            rw [Nat.mul_one, Nat.add_zero, hxe] at o1
            subst hAx
            have j1 : (0 : Int) ≤ (i : Int) := by omega
            have j2 : (i : Int) < (us.length : Int) := by omega
            have HRX := Lib.hid (Own.rd_ len_x1 hui2 rfl)
            have hnc := own_nonec hui2
            have hll : (rowI l).length ≤ 1000 := by rw [rowI_len]; omega
            have HO2 := Lib.hid hO2
            have HB2 := Lib.hid hb2
            have HLX := Lib.hid (rowI_snoc l x)
            have HKT := Lib.hid (kids_take hx1 hlt2)
            obtain ⟨l2, hl2⟩ : ∃ l2, l ++ [x] = l2 := ⟨_, rfl⟩
            have HL2 := Lib.hid hl2
            clear hcx hui2 hxe hO2 hb2 hl2
            go_wp2_with fail
            refine (cloneI_c _ _ (rowI l) _ _ HRX.out hnc (by omega)).mono ?_
            rintro e w1 ⟨v1, rfl, ho1, hb1⟩
            have HO1 := Lib.hid ho1
            have HB1 := Lib.hid hb1
            clear ho1 hb1
            go_wp2_with (first | (at_builtin; refine appInt64 _ _ rfl rfl _ (rowI l) (x : Int) rfl HO1.out HB1.out rfl (by simp) (by omega) ?_; intro v2 w2 hown2 hbw2; rw [← HLX.out, HL2.out] at hown2; obtain ⟨A2, c2, e2'⟩ := own_form hown2; subst e2'; have HOW2 := Lib.hid hown2; have HBW2 := Lib.hid hbw2; clear hown2 hbw2) | (at_builtin; refine appVInt64 _ _ rfl rfl _ us A2 (rowI l2).length c2 rfl (HO2.out.outer.call HBW2.out) (bel_call HB2.out HBW2.out hsi) rfl (by simp) (by omega) ?_; intro v3 w3 hown3 hb3 hg3 hat3; have HO3 := Lib.hid (HO2.out.push hsi HBW2.out HOW2.out hown3 hg3 hat3); have HB3 := Lib.hid hb3; clear hown3 hb3 hg3 hat3))
            go_roundw
            case rel => exact ⟨x + 1, us ++ [.slice A2 (rowI l2).length c2], by omega, by omega, by go_num, Lib.hid (by rw [List.length_append, HUL.out, List.length_singleton]; omega), HO3.out.congr (fun j hj => by rw [HKT.out, HL2.out, ← List.append_assoc]; exact rows_push _ l2 j us.length (by rw [HUL.out, List.length_append, List.length_take, kids_len]; omega) (by simpa using hj)), HB3.out⟩
            case measure => simp [intOf]; omega
          · obtain rfl : x = n := by omega
            have HEND := Lib.hid (show (kids x l).take (x - nextOf l) = kids x l by rw [List.take_of_length_le (by rw [kids_len]; omega)])
            rw [HEND.out, ← HK.out] at hO2
            go_wp2
            go_roundw
            case rel => exact ⟨i + 1, us, by omega, by go_num, Lib.hid (by rw [HK.out, List.length_append, kids_len, HUL.out]), hO2, hb2⟩
            case measure => simp [intOf]; omega
    · obtain rfl : i = p2 := by omega
      have hvl2 : vs.length = i := by rw [HVL.out]; exact F2.out
      have HE := Lib.hid (show vs.length = (subT n).length by rw [HVL.out, F3.out])
      have hO2 := HO.out
      obtain ⟨Av, cv, rfl⟩ := hO2.form
      rw [F3.out] at hO2
      have HO2 := Lib.hid hO2
      have hnl : ¬ (i : Int) < (vs.length : Int) := by omega
      clear hvl2 hO hO2 hb
      go_wp2
      go_ret
      exact ⟨_, rfl, vs, HE.out, HO2.out, HB.out⟩

/-- append of one element that lies anywhere, inside a region that draws its order -/
theorem stepGInt64 {ops : Array Oper} {o : Oper} {a : Act} {K : Act → World → Prop} {Q : Exit → Act → World → Prop} {X : Prop} {W : World} (s x : Operand) (hgd : o.guard = none) (ho : o.op = .call { callee := .builtin .append, args := #[s, x], argTypes := #[22, 22] })
    (v : Value) (L : List Int) (y : Int) (base : Nat) (hv : a.eval s = v) (hown : Own e1 1 W base 2 v L) (hbase : base ≤ W.heap.size) {g : Nat} (hx : a.eval x = .slice (some ⟨g, 0, none⟩) 1 1) (hc : W.cell? ⟨g, 0, none⟩ = some (.int .i64 y)) (hl : L.length + 1 ≤ 1000000000)
    (h : ∀ v' W', Own e1 1 W' base 2 v' (L ++ [y]) → W.grownBy W' v.ownBlock → K (a.put o.dst v') W') : if Region.wanted o (yielded ops a.tmps) = true then Oper.wp Try.prog o a W K Q else X := by
  obtain ⟨i0, hi, hz0, hz1, hz2⟩ := info_parts infoInt64
  rw [if_pos (by simp [Region.wanted, hgd])]
  refine wp_append_own W s x 22 ho base 2 i0 _ 1 8 Try.underlying22 hi hz0 hz1 hz2 rfl (by decide) v L.length (L.flatMap e1) hv hown ⟨g, 0, none⟩ 1 1 [.int .i64 y] hx rfl ?_ (by intro u hu; simp only [List.mem_singleton] at hu; rw [hu]; rfl) (by unfold maxLen; omega) (by omega) hbase ?_
  · intro j u hu
    have hj : j = 0 := by have := (List.getElem?_eq_some_iff.1 hu).1; simp at this; omega
    subst hj
    simp only [List.getElem?_cons_zero, Option.some.injEq] at hu
    subst hu
    rw [add_lit, Nat.add_zero]
    exact hc
  · intro v' W' hown' hg _
    refine h v' W' ?_ hg
    have e : (L ++ [y]).flatMap e1 = L.flatMap e1 ++ [.int .i64 y] := by simp
    have e2 : (L ++ [y]).length = L.length + 1 := by simp
    unfold Own
    rw [e, e2]
    exact hown'
def setB (R : List Int) (m f : Nat) (left : Int) : Bool := (setF R m f left).isSome
/-- what is handed back where a set is found -/
def SetOk (R : List Int) (m f : Nat) (left : Int) (w : World) (b0 : Nat) (v : Value) (bg : List Int) : Prop := ∀ t, setF R m f left = some t → Own e1 1 w b0 2 v (bg ++ rowI t)
theorem set_hit {R : List Int} {m f k : Nat} {left left2 x : Int} {t : List Nat} (h1 : f ≤ k) (hk : R[k]? = some x) (hn : ∀ j, f ≤ j → j < k → setF R m (j + 1) (left - R.getD j 0) = none) (e : left2 = left - x) (h : setF R m (k + 1) left2 = some t) : setF R (m + 1) f left = some (k :: t) := by
  have hkl := (List.getElem?_eq_some_iff.1 hk).1
  rw [setF]
  exact findFrom_some _ _ k h1 (by omega) (fun j hj hq => by rw [hn j hj hq]; rfl) (by rw [getD_at hk, ← e, h]; rfl)
theorem set_none {R : List Int} {m f : Nat} {left : Int} (hn : ∀ j, f ≤ j → j < R.length → setF R m (j + 1) (left - R.getD j 0) = none) : setF R (m + 1) f left = none := by
  rw [setF]
  exact findFrom_none _ _ (fun j hj hq => by rw [hn j hj (by omega)]; rfl)

set_option maxHeartbeats 8000000 in
set_option maxRecDepth 100000 in
theorem l10Set_c : ∀ (m : Nat) (A : Option Addr) (c : Nat) (R : List Int) (B : Option Addr) (d : Nat) (bg : List Int) (f : Nat) (left : Int) (b0 : Nat) (w : World), Rd e1 1 w w.heap.size A R → Own e1 1 w b0 2 (.slice B bg.length d) bg → b0 ≤ w.heap.size → R.length ≤ 8 → (∀ (i : Nat) (x : Int), R[i]? = some x → 0 ≤ x ∧ x ≤ 10000) → bg.length + m ≤ 100 → f ≤ R.length → -100000 + 10000 * (m : Int) ≤ left → left ≤ 100000 →
    Calls Try.prog 54 #[.slice A R.length c, .slice B bg.length d, .int .i64 f, .int .i64 m, .int .i64 left] w fun e w' => ∃ v, e = .returned (.tuple #[v, .bool (setB R m f left)]) ∧ SetOk R m f left w' b0 v bg ∧ Below w.heap.size w w' := by
  intro m
  induction m with
  | zero =>
    intro A c R B d bg f left b0 w hR hO hb0 hn hr hg hf h0 h1
    have HE := Lib.hid (show setB R 0 f left = decide (left ≤ 0) by unfold setB setF; split <;> rename_i h <;> simp [h])
    have HS := Lib.hid (show SetOk R 0 f left w b0 (.slice B bg.length d) bg from fun t ht => by
      rw [setF] at ht
      split at ht
      · injection ht with ht; subst ht; simpa [rowI] using hO
      · cases ht)
    clear hO hr hR
    go_enter Try.func54, Try.ntmps54
    go_wp2
    go_ret2
    exact ⟨_, by rw [HE.out]; rfl, HS.out, Below.refl _ _⟩
  | succ m ih =>
    intro A c R B d bg f left b0 w hR hO hb0 hn hr hg hf h0 h1
    have HIH := Lib.hid ih
    have HR := Lib.hid hR
    have HO := Lib.hid hO
    have HRR := Lib.hid hr
    clear ih hR hO hr
    have hm0 : (((m : Int) + 1) == 0) = false := beq_eq_false_iff_ne.2 (by omega)
    rw [show ((m + 1 : Nat) : Int) = (m : Int) + 1 by omega]
    go_enter Try.func54, Try.ntmps54
    go_wp2
    go_loopw [12] (fun i wr => ∃ k : Nat, f ≤ k ∧ k ≤ R.length ∧ i = .int .i64 k ∧ Below w.heap.size w wr ∧ Hid (∀ j, f ≤ j → j < k → setF R m (j + 1) (left - R.getD j 0) = none)) (fun i _ => R.length - (intOf i).toNat)
    case atStart => exact ⟨f, Nat.le_refl _, hf, rfl, Below.refl _ _, fun j h1 h2 => absurd h2 (by omega)⟩
    case round =>
      obtain ⟨k, hfk, hk, rfl, hb, HN⟩ := hrel
      have hsz := hb.size
      have HB := Lib.hid hb
      by_cases hlt : k < R.length
      · have HRW := Lib.hid ((HR.out.below hb).more hsz)
        have HOW := Lib.hid ((HO.out.call hb).base_ (show 0 ≤ b0 by omega))
        obtain ⟨b, off, hA, hbb, hc⟩ := (HR.out.below hb).at1 hlt
        have k0 := hc k _ (get_at hlt)
        have HX := Lib.hid (get_at hlt)
        obtain ⟨x0, x1⟩ := HRR.out k _ HX.out
        subst hA
        clear hc hb
        generalize R[k] = x at *
        obtain ⟨l2, hl2⟩ : ∃ l2, l2 = left - x := ⟨_, rfl⟩
        have i1 : IntKind.i64.wrap ((k : Int) + 1) = (k : Int) + 1 := by rw [IntWalk.i64_in _ (by omega)]
        have i2 : IntKind.i64.wrap ((m : Int) + 1 - 1) = (m : Int) := by rw [IntWalk.i64_in _ (by omega)]; omega
        have i2' : (m : Int) + 1 - 1 = (m : Int) := by omega
        have i2'' : IntKind.i64.wrap (m : Int) = (m : Int) := by rw [IntWalk.i64_in _ (by omega)]
        have i3 : IntKind.i64.wrap (left - x) = l2 := by rw [IntWalk.i64_in _ (by omega), hl2]
        have j1 : (0 : Int) ≤ (k : Int) := by omega
        have j2 : (k : Int) < (R.length : Int) := by omega
        have hl2a : -100000 + 10000 * (m : Int) ≤ l2 := by omega
        have hl2b : l2 ≤ 100000 := by omega
        have HL2 := Lib.hid hl2
        have HCA := Lib.hid (own_nonec HOW.out)
        have hbl : bg.length + 1 ≤ 1000000000 := by omega
        have hkl : k + 1 ≤ R.length := hlt
        obtain ⟨bg2, hbg2⟩ : ∃ l, bg ++ [(k : Int)] = l := ⟨_, rfl⟩
        have hb3' : bg2.length + m ≤ 100 := by rw [← hbg2]; simp; omega
        have HBG := Lib.hid hbg2
        have ek : ((k + 1 : Nat) : Int) = (k : Int) + 1 := by omega
        have HREC := Lib.hid (show ∀ (A2 : Option Addr) (c2 : Nat) (W : World), Rd e1 1 W W.heap.size (some ⟨b, off, none⟩) R → Own e1 1 W wr.heap.size 2 (.slice A2 bg2.length c2) bg2 → wr.heap.size ≤ W.heap.size → Calls Try.prog 54 #[.slice (some ⟨b, off, none⟩) R.length c, .slice A2 bg2.length c2, .int .i64 ((k : Int) + 1), .int .i64 m, .int .i64 l2] W fun e w' => ∃ v, e = .returned (.tuple #[v, .bool (setB R m (k + 1) l2)]) ∧ SetOk R m (k + 1) l2 w' wr.heap.size v bg2 ∧ Below W.heap.size W w' from fun A2 c2 W q1 q2 q3 => by
          have h := HIH.out (some ⟨b, off, none⟩) c R A2 c2 bg2 (k + 1) l2 wr.heap.size W q1 q2 q3 hn HRR.out hb3' hkl hl2a hl2b
          rw [ek] at h
          exact h)
        clear hl2 hbg2 ek
        go_wp2
        go_region_held3 (fun w' => w'.cell? ⟨b, off + k, none⟩ = some (.int .i64 x)) (first | exact k0 | exact kc (below_alloc1 wr (.cells #[.int .i64 (k : Int)] 2)) k0 | exact kc hb1 k0 | exact kc hb1 (kc (below_alloc1 wr (.cells #[.int .i64 (k : Int)] 2)) k0) | exact kc (below_alloc1 w1 (.cells #[.int .i64 (k : Int)] 2)) (kc hb1 k0) | exact kc hb2 k0 | exact kc hb4 (kc hb2 k0)) (first
          | (go_at_call 78; first
              | (refine (l00Own_c B d bg _ _ (Own.rd_ len_x1 (HOW.out.call (below_drew_ wr)) rfl) HCA.out (by omega)).mono ?_; rintro e w1 ⟨v1, rfl, ho1, hb1⟩)
              | (refine (l00Own_c B d bg _ _ (Own.rd_ len_x1 ((HOW.out.call (below_alloc1 wr (.cells #[.int .i64 (k : Int)] 2))).call (below_drew_ _)) rfl) HCA.out (by omega)).mono ?_; rintro e w1 ⟨v1, rfl, ho1, hb1⟩))
          | (refine stepGInt64 _ _ rfl rfl v1 bg (k : Int) _ rfl (ho1.call (below_alloc1 w1 (.cells #[.int .i64 (k : Int)] 2))) (Nat.le_trans hb1.size (below_alloc1 w1 (.cells #[.int .i64 (k : Int)] 2)).size) rfl ((Blk.new w1 2 #[.int .i64 (k : Int)]).cell 0) hbl ?_; intro v2 w2 hown2 hg2; have hb2 : Below wr.heap.size wr w2 := bel_own (bel_call (bel_call (below_drew_ wr) hb1 (below_drew_ wr).size) (below_alloc1 w1 (.cells #[.int .i64 (k : Int)] 2)) (Nat.le_trans (below_drew_ wr).size hb1.size)) hg2 (Nat.le_trans (Nat.le_trans (below_drew_ wr).size hb1.size) (below_alloc1 w1 (.cells #[.int .i64 (k : Int)] 2)).size) (by cases hq : v1.ownBlock with | none => exact .inl rfl | some q => exact .inr ⟨q, rfl, (ho1.lt q hq).1⟩); rw [HBG.out] at hown2; obtain ⟨A2, c2, e2'⟩ := own_form hown2; subst e2')
          | (refine stepGInt64 _ _ rfl rfl v1 bg (k : Int) _ rfl ho1 hb1.size rfl (kc hb1 ((Blk.new wr 2 #[.int .i64 (k : Int)]).cell 0)) hbl ?_; intro v2 w2 hown2 hg2; have hb2 : Below wr.heap.size wr w2 := bel_own (bel_call (bel_call (below_alloc1 wr (.cells #[.int .i64 (k : Int)] 2)) (below_drew_ _) (below_alloc1 wr (.cells #[.int .i64 (k : Int)] 2)).size) hb1 (Nat.le_trans (below_alloc1 wr (.cells #[.int .i64 (k : Int)] 2)).size (below_drew_ _).size)) hg2 (Nat.le_trans (Nat.le_trans (below_alloc1 wr (.cells #[.int .i64 (k : Int)] 2)).size (below_drew_ _).size) hb1.size) (by cases hq : v1.ownBlock with | none => exact .inl rfl | some q => exact .inr ⟨q, rfl, Nat.le_trans (below_alloc1 wr (.cells #[.int .i64 (k : Int)] 2)).size (ho1.lt q hq).1⟩); rw [HBG.out] at hown2; obtain ⟨A2, c2, e2'⟩ := own_form hown2; subst e2')
          | (go_at_call 54; refine (HREC.out A2 c2 w2 ((HRW.out.below hb2).more hb2.size) (hown2.base_ (by first | exact hb1.size | exact Nat.le_trans (below_alloc1 wr (.cells #[.int .i64 (k : Int)] 2)).size (Nat.le_refl _) | simp)) hb2.size).mono ?_; rintro e w4 ⟨v4, rfl, hs4, hb4⟩))
        all_goals
          have HB4 := Lib.hid (bel_call hb2 hb4 hb2.size)
          have HS4 := Lib.hid hs4
          clear hb1 hb2 hb4 hs4 hown2 hg2 ho1
          cases hs : setF R m (k + 1) l2 with
          | none =>
            have HF := Lib.hid (show setB R m (k + 1) l2 = false by rw [setB, hs]; rfl)
            have HN2 : Hid (∀ j, f ≤ j → j < k + 1 → setF R m (j + 1) (left - R.getD j 0) = none) := fun j h1 h2 => by
              rcases Nat.lt_succ_iff_lt_or_eq.1 h2 with h2 | rfl
              · exact HN.out j h1 h2
              · rw [getD_at HX.out, ← HL2.out]; exact hs
            have HBB := Lib.hid (bel_call HB.out HB4.out hsz)
            rw [HF.out]
            clear hs
            go_wp2
            go_roundw
            case rel => exact ⟨k + 1, by omega, by omega, by go_num, HBB.out, HN2⟩
            case measure => simp [intOf]; omega
          | some t =>
            have HF := Lib.hid (show setB R m (k + 1) l2 = true by rw [setB, hs]; rfl)
            have hit := set_hit hfk HX.out HN.out HL2.out hs
            have HT := Lib.hid (show setB R (m + 1) f left = true by rw [setB, hit]; rfl)
            have HOK := Lib.hid (show SetOk R (m + 1) f left w4 b0 v4 bg from fun t2 ht2 => by
              rw [hit] at ht2
              injection ht2 with ht2
              subst ht2
              have h3 := HS4.out t hs
              rw [← HBG.out, List.append_assoc] at h3
              exact h3.base_ (Nat.le_trans hb0 hsz))
            have HBB := Lib.hid (bel_call HB.out HB4.out hsz)
            rw [HF.out]
            clear hs hit
            go_wp2
            go_ret2
            exact ⟨_, by rw [HT.out]; rfl, HOK.out, HBB.out⟩
      · obtain rfl : k = R.length := by omega
        have hno := set_none HN.out
        have HF := Lib.hid (show setB R (m + 1) f left = false by rw [setB, hno]; rfl)
        have HOK := Lib.hid (show SetOk R (m + 1) f left wr b0 (.slice none 0 0) bg from fun t ht => by rw [hno] at ht; cases ht)
        clear hno
        go_wp2
        go_ret2
        exact ⟨_, by rw [HF.out]; rfl, HOK.out, hb⟩

theorem find_at {p : List Nat → Bool} {T : List (List Nat)} {k : Nat} (hk : k < T.length) (h1 : ∀ j, j < k → p (T.getD j []) = false) (h2 : p (T.getD k []) = true) : T.find? p = some (T.getD k []) := by
  induction T generalizing k with
  | nil => simp at hk
  | cons a T ih =>
    cases k with
    | zero =>
      rw [List.find?_cons]
      have e : p a = true := h2
      rw [e]; rfl
    | succ k =>
      have e : p a = false := h1 0 (by omega)
      rw [List.find?_cons, e]
      exact ih (by simpa using hk) (fun j hj => h1 (j + 1) (by omega)) h2
theorem find_no {p : List Nat → Bool} {T : List (List Nat)} (h1 : ∀ j, j < T.length → p (T.getD j []) = false) : T.find? p = none := by
  rw [List.find?_eq_none]
  intro x hx hp
  obtain ⟨j, hj, rfl⟩ := List.getElem_of_mem hx
  have := h1 j hj
  rw [getD_at (get_at hj), hp] at this
  cases this
theorem subT_good {n : Nat} (h1 : 1 ≤ n) (h8 : n ≤ 8) {k : Nat} (hk : k < (subT n).length) : ((subT n).getD k []).length ≤ 256 ∧ ∀ x ∈ (subT n).getD k [], x < n := by
  obtain ⟨_, _, f3⟩ := qs_end h1 h8
  have hp := pow2_le h8
  rw [getD_at (get_at hk)]
  have hm : (subT n)[k] ∈ qs n (pow2 n) := by rw [f3]; exact List.getElem_mem hk
  have := qs_good n (pow2 n) _ hm
  exact ⟨by omega, this.2⟩
theorem subT_len {n : Nat} (h1 : 1 ≤ n) (h8 : n ≤ 8) : (subT n).length ≤ 256 := by
  obtain ⟨_, f2, f3⟩ := qs_end h1 h8
  have hp := pow2_le h8
  rw [← f3, f2]; exact hp
theorem mr_bd {L : List (Int × Int × Int × Int)} (h : millsOk L = true) (f : Int) : ∀ (i : Nat) (x : Int), (mrTo L f L.length)[i]? = some x → 0 ≤ x ∧ x ≤ 10000 := fun i x hx => by
  obtain ⟨m, hm, rfl⟩ := mrTo_at hx
  exact rateOf_bd (millsOk_at h hm)

set_option maxHeartbeats 8000000 in
set_option maxRecDepth 100000 in
theorem FewestMills_c (A : Option Addr) (c : Nat) (L : List (Int × Int × Int × Int)) (fo ra : Int) (w : World) (hR : Rd e4 4 w w.heap.size A L) (hn : L.length ≤ maxLen) :
    Calls Try.prog 26 #[.slice A L.length c, .int .i64 fo, .int .i64 ra] w fun e w' => ∃ v, e = .returned (.tuple #[v, .int .i64 (fmCode L fo ra)]) ∧ Own e1 1 w' w.heap.size 2 v (fmList L fo ra) ∧ Below w.heap.size w w' := by
  cases h : millsOk L
  · have HC := Lib.hid (show fmCode L fo ra = 1 by simp [fmCode, h])
    have HF := Lib.hid (show fmList L fo ra = [] by simp [fmList, HC.out])
    have H1 := Lib.hid h
    clear h
    go_enter Try.func26, Try.ntmps26
    go_wp2_with fail
    refine (areMills_c _ _ L _ hR hn).mono ?_
    rintro e w1 ⟨rfl, hb1⟩
    rw [H1.out]
    go_wp2
    go_ret2
    exact ⟨_, by rw [HC.out]; rfl, by rw [HF.out]; exact own_empty_at hb1.size, hb1.alloc hb1.size _⟩
  have H1 := Lib.hid h
  have hl := millsOk_len h
  cases h2 : inB fo 0 12
  · have HC := Lib.hid (show fmCode L fo ra = 2 by simp [fmCode, h, h2])
    have HF := Lib.hid (show fmList L fo ra = [] by simp [fmList, HC.out])
    have H2 := Lib.hid h2
    clear h h2
    go_enter Try.func26, Try.ntmps26
    go_wp2_with fail
    refine (areMills_c _ _ L _ hR hn).mono ?_
    rintro e w1 ⟨rfl, hb1⟩
    rw [H1.out]
    go_wp2_with fail
    refine (force_c _ _).mono ?_
    rintro e w' ⟨rfl, rfl⟩
    rw [H2.out]
    go_wp2
    go_ret2
    exact ⟨_, by rw [HC.out]; rfl, by rw [HF.out]; exact own_empty_at hb1.size, hb1.alloc hb1.size _⟩
  have H2 := Lib.hid h2
  cases h3 : inB ra 1 80000
  · have HC := Lib.hid (show fmCode L fo ra = 2 by simp [fmCode, h, h2, h3])
    have HF := Lib.hid (show fmList L fo ra = [] by simp [fmList, HC.out])
    have H3 := Lib.hid h3
    clear h h2 h3
    go_enter Try.func26, Try.ntmps26
    go_wp2_with fail
    refine (areMills_c _ _ L _ hR hn).mono ?_
    rintro e w1 ⟨rfl, hb1⟩
    rw [H1.out]
    go_wp2_with fail
    refine (force_c _ _).mono ?_
    rintro e w' ⟨rfl, rfl⟩
    rw [H2.out]
    go_wp2_with fail
    refine (in_c _ _ _ _).mono ?_
    rintro e w' ⟨rfl, rfl⟩
    rw [H3.out]
    go_wp2
    go_ret2
    exact ⟨_, by rw [HC.out]; rfl, by rw [HF.out]; exact own_empty_at hb1.size, hb1.alloc hb1.size _⟩
  have H3 := Lib.hid h3
  have hra := inB_iff.1 h3
  have hfo := inB_iff.1 h2
  have HCS := Lib.hid (show ∀ l, fmO L fo ra = some l → fmCode L fo ra = 0 ∧ fmList L fo ra = rowI l from fun l hl => by
    have e : fmCode L fo ra = 0 := by simp [fmCode, h, h2, h3, hl]
    exact ⟨e, by rw [fmList, if_pos e, hl]; rfl⟩)
  have HCN := Lib.hid (show fmO L fo ra = none → fmCode L fo ra = 3 ∧ fmList L fo ra = [] from fun hl => by
    have e : fmCode L fo ra = 3 := by simp [fmCode, h, h2, h3, hl]
    exact ⟨e, by rw [fmList, if_neg (by omega)]⟩)
  have HMB := Lib.hid (mr_bd h fo)
  have HML := Lib.hid (mrTo_len (l := L) (f := fo) (Nat.le_refl L.length))
  have HT := Lib.hid (show ∀ k, k < (subT L.length).length → ((subT L.length).getD k []).length ≤ 256 ∧ ∀ x ∈ (subT L.length).getD k [], x < L.length from fun k hk => subT_good hl.1 hl.2 hk)
  have htl := subT_len hl.1 hl.2
  have HFI := Lib.hid (show (subT L.length).find? (fun l => decide (ra ≤ lsum (mrTo L fo L.length) l)) = fewO (mrTo L fo L.length) ra by
    have h := few_find (mrTo L fo L.length) ra hra.1
    rw [mrTo_len (Nat.le_refl L.length)] at h
    exact h)
  clear h h2 h3
  go_enter Try.func26, Try.ntmps26
  go_wp2_with fail
  refine (areMills_c _ _ L _ hR hn).mono ?_
  rintro e w1 ⟨rfl, hb1⟩
  rw [H1.out]
  go_wp2_with fail
  refine (force_c _ _).mono ?_
  rintro e w' ⟨rfl, rfl⟩
  rw [H2.out]
  go_wp2_with fail
  refine (in_c _ _ _ _).mono ?_
  rintro e w' ⟨rfl, rfl⟩
  rw [H3.out]
  go_wp2_with fail
  refine (millRates_c _ _ L fo _ ((hR.below hb1).more hb1.size) H1.out hfo.1 hfo.2).mono ?_
  rintro e w2 ⟨vR, rfl, hoR, hb2⟩
  obtain ⟨AR, cR, rfl⟩ := own_form hoR
  have HB2 := Lib.hid (bel_call hb1 hb2 hb1.size)
  have HOR := Lib.hid hoR
  clear hb1 hb2 hoR
  go_wp2_with fail
  refine (sizeMill_c _ _ _ _ hn).mono ?_
  rintro e w' ⟨rfl, rfl⟩
  go_wp2_with fail
  refine (subsets_c L.length _ hl.1 hl.2).mono ?_
  rintro e w3 ⟨vS, rfl, vs, hvl, hO, hb3⟩
  obtain ⟨AS, cS, rfl⟩ := hO.form
  have HB3 := Lib.hid (bel_call HB2.out hb3 HB2.out.size)
  have hsz := HB2.out.size
  have HRR := Lib.hid (Own.rd_ len_x1 (HOR.out.call hb3) rfl)
  have HVL := Lib.hid hvl
  have hvl2 : vs.length ≤ 256 := by omega
  have HO := Lib.hid hO
  have HOO := Lib.hid (Own.rd_ len_ev hO.outer rfl)
  clear hb3 hO hvl HOR
  generalize hRe : mrTo L fo L.length = R at *
  have HRE := Lib.hid hRe
  clear hRe
  go_wp2
  go_loopw [36] (fun i wr => ∃ k : Nat, k ≤ vs.length ∧ i = .int .i64 (k : Int) ∧ w3 = wr ∧ Hid (∀ j, j < k → decide (ra ≤ lsum R ((subT L.length).getD j [])) = false)) (fun i _ => vs.length - (intOf i).toNat)
  case atStart => exact ⟨0, by omega, rfl, rfl, fun j hj => absurd hj (by omega)⟩
  case round =>
    obtain ⟨k, hk, rfl, rfl, HN⟩ := hrel
    by_cases hlt : k < vs.length
    · have hkT : k < (subT L.length).length := by rw [← HVL.out]; exact hlt
      obtain ⟨hll, hlx⟩ := HT.out k hkT
      obtain ⟨hui, _⟩ := HO.out.inner k _ (get_at hlt)
      obtain ⟨l, hl0⟩ : ∃ l, (subT L.length).getD k [] = l := ⟨_, rfl⟩
      replace hui : Own e1 1 w3 w2.heap.size 2 vs[k] (rowI l) := by rw [← hl0]; exact hui
      rw [hl0] at hll hlx
      have HL0 := Lib.hid hl0
      obtain ⟨Au, cu, hue⟩ := own_form hui
      rw [hue] at hui
      obtain ⟨g, og, hA, hg, hcc⟩ := HOO.out (by omega)
      have o0 := hcc k hlt 0 _ rfl
      rw [Nat.mul_one, Nat.add_zero, hue] at o0
      subst hA
      have j1 : (0 : Int) ≤ (k : Int) := by omega
      have j2 : (k : Int) < (vs.length : Int) := by omega
      have HRU := Lib.hid (Own.rd_ len_x1 hui rfl)
      have HUI := Lib.hid hui
      have HRL := Lib.hid (rowI_len l)
      have HLX := Lib.hid hlx
      clear hcc hue hl0 hui hlx
      obtain ⟨wo, hwo⟩ : ∃ wo : World, wo = w3 := ⟨_, rfl⟩
      subst hwo
      go_wp2
      clear o0
      go_loopw [11, 42] (fun s j wr => ∃ t : Nat, t ≤ l.length ∧ s = .int .i64 (lsum R (l.take t)) ∧ j = .int .i64 (t : Int) ∧ wo = wr) (fun _ j _ => l.length - (intOf j).toNat)
      case atStart => exact ⟨0, by omega, rfl, rfl, rfl⟩
      case round =>
        obtain ⟨t, ht, rfl, rfl, rfl⟩ := hrel
        obtain ⟨b1, b2⟩ := lsum_bd HMB.out (l.take t)
        have htl2 : (l.take t).length ≤ 256 := by rw [List.length_take]; omega
        have b3 : lsum R (l.take t) ≤ 2560000 := by omega
        clear b2 htl2
        by_cases hlt2 : t < l.length
        · obtain ⟨b, off, hA2, hbb, hc⟩ := HRU.out.at1 (k := t) (by rw [HRL.out]; exact hlt2)
          have k0 := hc t _ (rowI_at (get_at hlt2))
          have hxn : l[t] < R.length := by rw [HML.out]; exact HLX.out _ (List.getElem_mem hlt2)
          obtain ⟨b', off', hA3, hbb', hc'⟩ := HRR.out.at1 (k := l[t]) hxn
          have r0 := hc' _ _ (get_at hxn)
          obtain ⟨x1, x2⟩ := HMB.out _ _ (get_at hxn)
          have HS := Lib.hid (lsum_snoc R l t (get_at hlt2))
          have HGD := Lib.hid (getD_at (d := (0 : Int)) (get_at hxn))
          subst hA2 hA3
          have m1 : (0 : Int) ≤ (l[t] : Int) := by omega
          have m2 : (l[t] : Int) < (R.length : Int) := by omega
          have m3 : (0 : Int) ≤ (t : Int) := by omega
          have m4 : (t : Int) < ((rowI l).length : Int) := by rw [HRL.out]; omega
          clear hc hc'
          generalize R[l[t]] = r at *
          generalize l[t] = x at *
          generalize lsum R (l.take t) = s at *
          go_wp2
          go_roundw
          case rel => exact ⟨t + 1, by omega, by rw [HS.out, HGD.out], by go_num, by trivial⟩
          case measure => simp [intOf]; omega
        · obtain rfl : t = l.length := by omega
          have HTK := Lib.hid (show l.take l.length = l from List.take_length)
          have m4 : ¬ (l.length : Int) < ((rowI l).length : Int) := by rw [HRL.out]; omega
          rw [HTK.out]
          rw [HTK.out] at b1 b3
          by_cases hge : ra ≤ lsum R l
          · have hfd := HFI.out
            rw [find_at (p := fun l => decide (ra ≤ lsum R l)) hkT HN.out (by rw [HL0.out]; exact decide_eq_true hge), HL0.out] at hfd
            have hO2 : fmO L fo ra = some l := by rw [fmO, HRE.out]; exact hfd.symm
            obtain ⟨c1, c2⟩ := HCS.out l hO2
            have HC1 := Lib.hid c1
            have HC2 := Lib.hid c2
            clear c1 c2 hO2 hfd
            go_wp2
            go_ret2
            exact ⟨_, by rw [HC1.out]; rfl, by rw [HC2.out]; exact HUI.out.base_ hsz, HB3.out⟩
          · have HN2 : Hid (∀ j, j < k + 1 → decide (ra ≤ lsum R ((subT L.length).getD j [])) = false) := fun j hj => by
              rcases Nat.lt_succ_iff_lt_or_eq.1 hj with hj | rfl
              · exact HN.out j hj
              · rw [HL0.out]; exact decide_eq_false hge
            go_wp2
            go_roundw
            case rel => exact ⟨k + 1, by omega, by go_num, by trivial, HN2⟩
            case measure => simp [intOf]; omega
    · obtain rfl : k = vs.length := by omega
      have hfd := HFI.out
      rw [find_no (p := fun l => decide (ra ≤ lsum R l)) (fun j hj => HN.out j (by rw [HVL.out]; exact hj))] at hfd
      have hO2 : fmO L fo ra = none := by rw [fmO, HRE.out]; exact hfd.symm
      obtain ⟨c1, c2⟩ := HCN.out hO2
      have HC1 := Lib.hid c1
      have HC2 := Lib.hid c2
      clear c1 c2 hO2 hfd
      go_wp2
      go_ret2
      exact ⟨_, by rw [HC1.out]; rfl, by rw [HC2.out]; exact own_empty_at HB3.out.size, HB3.out.alloc HB3.out.size _⟩

set_option maxHeartbeats 8000000 in
set_option maxRecDepth 100000 in
theorem lFewestMills_c (A : Option Addr) (c : Nat) (L : List (Int × Int × Int × Int)) (fo ra : Int) (w : World) (hR : Rd e4 4 w w.heap.size A L) (hn : L.length ≤ maxLen) :
    Calls Try.prog 24 #[.slice A L.length c, .int .i64 fo, .int .i64 ra] w fun e w' => ∃ v, e = .returned (.tuple #[v, .int .i64 (fmCode L fo ra)]) ∧ Own e1 1 w' w.heap.size 2 v (fmList L fo ra) ∧ Below w.heap.size w w' := by
  cases h : millsOk L
  · have HC := Lib.hid (show fmCode L fo ra = 1 by simp [fmCode, h])
    have HF := Lib.hid (show fmList L fo ra = [] by simp [fmList, HC.out])
    have H1 := Lib.hid h
    clear h
    go_enter Try.func24, Try.ntmps24
    go_wp2_with fail
    refine (l10List_c _ _ L _ hR hn).mono ?_
    rintro e w1 ⟨rfl, hb1⟩
    rw [H1.out]
    go_wp2
    go_ret2
    exact ⟨_, by rw [HC.out]; rfl, by rw [HF.out]; exact Own.nil_, hb1⟩
  have H1 := Lib.hid h
  have hl := millsOk_len h
  cases h2 : inB fo 0 12
  · have HC := Lib.hid (show fmCode L fo ra = 2 by simp [fmCode, h, h2])
    have HF := Lib.hid (show fmList L fo ra = [] by simp [fmList, HC.out])
    have H2 := Lib.hid h2
    clear h h2
    go_enter Try.func24, Try.ntmps24
    go_wp2_with fail
    refine (l10List_c _ _ L _ hR hn).mono ?_
    rintro e w1 ⟨rfl, hb1⟩
    rw [H1.out]
    go_wp2_with fail
    refine (lforce_c _ _).mono ?_
    rintro e w' ⟨rfl, rfl⟩
    rw [H2.out]
    go_wp2
    go_ret2
    exact ⟨_, by rw [HC.out]; rfl, by rw [HF.out]; exact Own.nil_, hb1⟩
  have H2 := Lib.hid h2
  cases h3 : inB ra 1 80000
  · have HC := Lib.hid (show fmCode L fo ra = 2 by simp [fmCode, h, h2, h3])
    have HF := Lib.hid (show fmList L fo ra = [] by simp [fmList, HC.out])
    have H3 := Lib.hid h3
    clear h h2 h3
    go_enter Try.func24, Try.ntmps24
    go_wp2_with fail
    refine (l10List_c _ _ L _ hR hn).mono ?_
    rintro e w1 ⟨rfl, hb1⟩
    rw [H1.out]
    go_wp2_with fail
    refine (lforce_c _ _).mono ?_
    rintro e w' ⟨rfl, rfl⟩
    rw [H2.out]
    go_wp2_with fail
    refine (lin_c _ _ _ _).mono ?_
    rintro e w' ⟨rfl, rfl⟩
    rw [H3.out]
    go_wp2
    go_ret2
    exact ⟨_, by rw [HC.out]; rfl, by rw [HF.out]; exact Own.nil_, hb1⟩
  have H3 := Lib.hid h3
  have hra := inB_iff.1 h3
  have hfo := inB_iff.1 h2
  have HCS := Lib.hid (show ∀ l, fmO L fo ra = some l → fmCode L fo ra = 0 ∧ fmList L fo ra = rowI l from fun l hl => by
    have e : fmCode L fo ra = 0 := by simp [fmCode, h, h2, h3, hl]
    exact ⟨e, by rw [fmList, if_pos e, hl]; rfl⟩)
  have HCN := Lib.hid (show fmO L fo ra = none → fmCode L fo ra = 3 ∧ fmList L fo ra = [] from fun hl => by
    have e : fmCode L fo ra = 3 := by simp [fmCode, h, h2, h3, hl]
    exact ⟨e, by rw [fmList, if_neg (by omega)]⟩)
  have HMB := Lib.hid (mr_bd h fo)
  have HML := Lib.hid (mrTo_len (l := L) (f := fo) (Nat.le_refl L.length))
  have HOK := Lib.hid (show ∀ (i : Nat) (x : Int × Int × Int × Int), L[i]? = some x → millOk x = true from fun i x hx => millsOk_at h hx)
  clear h h2 h3
  go_enter Try.func24, Try.ntmps24
  go_wp2_with fail
  refine (l10List_c _ _ L _ hR hn).mono ?_
  rintro e w1 ⟨rfl, hb1⟩
  rw [H1.out]
  go_wp2_with fail
  refine (lforce_c _ _).mono ?_
  rintro e w' ⟨rfl, rfl⟩
  rw [H2.out]
  go_wp2_with fail
  refine (lin_c _ _ _ _).mono ?_
  rintro e w' ⟨rfl, rfl⟩
  rw [H3.out]
  have HB1 := Lib.hid hb1
  clear hb1
  go_wp2
  go_loopw [8, 9] (fun v i wr => ∃ k : Nat, k ≤ L.length ∧ i = .int .i64 (k : Int) ∧ Own e1 1 wr w.heap.size 2 v (mrTo L fo k) ∧ Below w.heap.size w wr) (fun _ i _ => L.length - (intOf i).toNat)
  case atStart => exact ⟨0, by omega, rfl, own_empty_at HB1.out.size, HB1.out.alloc HB1.out.size _⟩
  case round =>
    obtain ⟨k, hk, rfl, ho, hb⟩ := hrel
    have hsz := hb.size
    have HO := Lib.hid ho
    have HB := Lib.hid hb
    have hlen : (mrTo L fo k).length = k := mrTo_len hk
    have HLN := Lib.hid hlen
    clear ho hb hlen
    by_cases hlt : k < L.length
    · obtain ⟨b, off, rfl, hbb, hc⟩ := (hR.below HB.out).at4 hlt
      have ⟨k0, k1, k2, k3⟩ := hc k _ (get_at hlt)
      have HX := Lib.hid (mrTo_succ (f := fo) (get_at hlt))
      have hok := HOK.out k _ (get_at hlt)
      have HRB := Lib.hid (rateOf_bd (f := fo) hok)
      clear hc
      generalize L[k] = x at *
      go_wp2_with fail
      refine (l10Rate_c x fo _ hok hfo.1 hfo.2).mono ?_
      rintro e w2 ⟨rfl, hb2⟩
      have HO2 := Lib.hid (HO.out.call hb2)
      have HB2 := Lib.hid (bel_call HB.out hb2 hsz)
      have hs2 := hb2.size
      clear hb2
      obtain ⟨r, hr⟩ : ∃ r, rateOf x fo = r := ⟨_, rfl⟩
      rw [hr]
      have HR' := Lib.hid hr
      clear hr
      go_wp2_with (at_builtin; refine appInt64 _ _ rfl rfl _ (mrTo L fo k) r rfl HO2.out HB2.out rfl (by simp) (by rw [HLN.out]; omega) ?_; intro v3 w3 hown3 hb3; have HO3 := Lib.hid hown3; clear hown3)
      go_roundw
      case rel => exact ⟨k + 1, by omega, by go_num, by rw [HX.out, HR'.out]; exact HO3.out, hb3⟩
      case measure => simp [intOf]; omega
    · obtain rfl : k = L.length := by omega
      obtain ⟨AR, cR, e0⟩ := own_form HO.out
      subst e0
      generalize hRe : mrTo L fo L.length = R at *
      have HRE := Lib.hid hRe
      clear hRe
      obtain ⟨wo, hwo⟩ : ∃ wo : World, wo = wr := ⟨_, rfl⟩
      subst hwo
      go_wp2
      go_loopw [10] (fun i wi => ∃ q : Nat, 1 ≤ q ∧ q ≤ L.length + 1 ∧ i = .int .i64 (q : Int) ∧ Own e1 1 wi w.heap.size 2 (.slice AR R.length cR) R ∧ Below w.heap.size w wi ∧ Hid (∀ j, 1 ≤ j → j < q → setF R j 0 ra = none)) (fun i _ => L.length + 1 - (intOf i).toNat)
      case atStart => exact ⟨1, Nat.le_refl _, by omega, rfl, HO.out, HB.out, fun j h1 h2 => absurd h2 (by omega)⟩
      case round =>
        obtain ⟨q, hq1, hq2, rfl, ho, hb, HN⟩ := hrel
        have hsz := hb.size
        have HOI := Lib.hid ho
        have HBI := Lib.hid hb
        clear ho hb
        by_cases hlt2 : q ≤ L.length
        · have hrec : Calls Try.prog 54 #[.slice AR R.length cR, .slice (some ⟨wr.heap.size, 0, none⟩) 0 0, .int .i64 0, .int .i64 (q : Int), .int .i64 ra] (wr.alloc (.cells #[] 2)) fun e w' => ∃ v, e = .returned (.tuple #[v, .bool (setB R q 0 ra)]) ∧ SetOk R q 0 ra w' wr.heap.size v [] ∧ Below (wr.alloc (.cells #[] 2)).heap.size (wr.alloc (.cells #[] 2)) w' := by
            have h := l10Set_c q AR cR R (some ⟨wr.heap.size, 0, none⟩) 0 [] 0 ra wr.heap.size (wr.alloc (.cells #[] 2)) (Own.rd_ len_x1 (HOI.out.call (below_alloc1 wr _)) rfl) (own_empty wr 2) (below_alloc1 wr _).size (by rw [HML.out]; exact hl.2) HMB.out (by simp; omega) (by omega) (by omega) (by omega)
            exact h
          have HREC := Lib.hid hrec
          clear hrec
          go_wp2_with fail
          refine HREC.out.mono ?_
          rintro e w4 ⟨v4, rfl, hs4, hb4⟩
          have HB4 := Lib.hid (bel_call (bel_call HBI.out (below_alloc1 wr (.cells #[] 2)) hsz) hb4 (bel_call HBI.out (below_alloc1 wr (.cells #[] 2)) hsz).size)
          have HO4 := Lib.hid ((HOI.out.call (below_alloc1 wr (.cells #[] 2))).call hb4)
          have HS4 := Lib.hid hs4
          clear hb4 hs4 HREC
          cases hs : setF R q 0 ra with
          | none =>
            have HF := Lib.hid (show setB R q 0 ra = false by rw [setB, hs]; rfl)
            have HN2 : Hid (∀ j, 1 ≤ j → j < q + 1 → setF R j 0 ra = none) := fun j h1 h2 => by
              rcases Nat.lt_succ_iff_lt_or_eq.1 h2 with h2 | rfl
              · exact HN.out j h1 h2
              · exact hs
            rw [HF.out]
            clear hs
            go_wp2
            go_roundw
            case rel => exact ⟨q + 1, by omega, by omega, by go_num, HO4.out, HB4.out, HN2⟩
            case measure => simp [intOf]; omega
          | some t =>
            have HF := Lib.hid (show setB R q 0 ra = true by rw [setB, hs]; rfl)
            have hO2 : fmO L fo ra = some t := by rw [fmO, HRE.out, fewO]; exact findFrom_some _ _ q hq1 (by rw [HML.out]; omega) HN.out hs
            obtain ⟨c1, c2⟩ := HCS.out t hO2
            have HC1 := Lib.hid c1
            have HC2 := Lib.hid c2
            have HOV := Lib.hid ((HS4.out t hs).base_ hsz)
            rw [HF.out]
            clear hs c1 c2 hO2
            go_wp2
            go_ret2
            exact ⟨_, by rw [HC1.out]; rfl, by rw [HC2.out]; exact HOV.out, HB4.out⟩
        · have hO2 : fmO L fo ra = none := by rw [fmO, HRE.out, fewO]; exact findFrom_none _ _ (fun j h1 h2 => HN.out j h1 (by rw [HML.out] at h2; omega))
          obtain ⟨c1, c2⟩ := HCN.out hO2
          have HC1 := Lib.hid c1
          have HC2 := Lib.hid c2
          clear c1 c2 hO2
          go_wp2
          go_ret2
          exact ⟨_, by rw [HC1.out]; rfl, by rw [HC2.out]; exact Own.nil_, HBI.out⟩

end Go.Proofs.Ytbaffjjafkpcfaa
