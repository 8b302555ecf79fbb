/- The contracts of the functions on dry spells. -/
import Derived.Test.YtbaffjjafkpcfaaSS3
import Derived.Test.YtbaffjjafkpcfaaRain2
namespace Go.Proofs.Ytbaffjjafkpcfaa
open Go.RowKit

/-- one more day in the last spell -/
def bump (S : List (Int × Int)) : List (Int × Int) := S.set (S.length - 1) ((S.getD (S.length - 1) (0, 0)).1, (S.getD (S.length - 1) (0, 0)).2 + 1)
/-- the dry spells of the first k days: their first days and their numbers of days -/
def dsTo (L : List Int) : Nat → List (Int × Int)
  | 0 => []
  | k + 1 => if 0 < L.getD k 0 then dsTo L k else if 0 < k ∧ L.getD (k - 1) 0 = 0 then bump (dsTo L k) else dsTo L k ++ [((k : Int), 1)]
theorem bump_snoc (X : List (Int × Int)) (a b : Int) : bump (X ++ [(a, b)]) = X ++ [(a, b + 1)] := by
  have e : (X ++ [(a, b)]).length - 1 = X.length := by simp
  unfold bump
  rw [e]
  have e2 : (X ++ [(a, b)]).getD X.length (0, 0) = (a, b) := by simp [List.getD]
  rw [e2]
  simp
theorem bump_len (S : List (Int × Int)) : (bump S).length = S.length := by simp [bump]
theorem ds_yes {L : List Int} {k : Nat} {x : Int} (h : L[k]? = some x) (hx : 0 < x) : dsTo L (k + 1) = dsTo L k := by
  rw [dsTo, getD_at h, if_pos hx]
theorem ds_bump {L : List Int} {k : Nat} {x y : Int} (h : L[k]? = some x) (hx : ¬ 0 < x) (h0 : 0 < k) (hy : L[k - 1]? = some y) (e : y = 0) : dsTo L (k + 1) = bump (dsTo L k) := by
  rw [dsTo, getD_at h, if_neg hx, getD_at hy, if_pos ⟨h0, e⟩]
theorem ds_app {L : List Int} {k : Nat} {x : Int} (h : L[k]? = some x) (hx : ¬ 0 < x) (hn : k = 0 ∨ ∃ y, L[k - 1]? = some y ∧ y ≠ 0) : dsTo L (k + 1) = dsTo L k ++ [((k : Int), 1)] := by
  rw [dsTo, getD_at h, if_neg hx, if_neg]
  rintro ⟨h0, e⟩
  rcases hn with h1 | ⟨y, h1, h2⟩
  · omega
  · rw [getD_at h1] at e; exact h2 e
/-- all spells lie in the first k days; behind a dry day there is one -/
theorem ds_good (L : List Int) : ∀ k, (dsTo L k).length ≤ k ∧ (∀ p ∈ dsTo L k, 0 ≤ p.1 ∧ p.1 ≤ k ∧ 1 ≤ p.2 ∧ p.2 ≤ k)
  | 0 => ⟨by simp [dsTo], by simp [dsTo]⟩
  | k + 1 => by
    obtain ⟨h1, h2⟩ := ds_good L k
    rw [dsTo]
    split
    · exact ⟨by omega, fun p hp => by have := h2 p hp; omega⟩
    · split
      · refine ⟨by rw [bump_len]; omega, fun p hp => ?_⟩
        unfold bump at hp
        rcases List.mem_or_eq_of_mem_set hp with hm | hm
        · have := h2 p hm; omega
        · subst hm
          by_cases h0 : (dsTo L k).length = 0
          · exfalso
            rw [List.eq_nil_of_length_eq_zero h0] at hp; simp at hp
          · have hl : (dsTo L k).length - 1 < (dsTo L k).length := by omega
            have := h2 _ (List.getElem_mem hl)
            rw [getD_at (get_at hl)]
            simp only
            omega
      · refine ⟨by simp; omega, fun p hp => ?_⟩
        rcases List.mem_append.1 hp with hm | hm
        · have := h2 p hm; omega
        · simp only [List.mem_cons, List.not_mem_nil, or_false] at hm
          subst hm; simp only; omega
theorem ds_pos {L : List Int} {k : Nat} {y : Int} (hk : 0 < k) (hy : L[k - 1]? = some y) (e : y = 0) : 0 < (dsTo L k).length := by
  obtain ⟨j, rfl⟩ : ∃ j, k = j + 1 := ⟨k - 1, by omega⟩
  simp only [Nat.add_sub_cancel] at hy
  induction j with
  | zero => rw [dsTo, getD_at hy, if_neg (by omega), if_neg (by omega)]; simp
  | succ j ih =>
    rw [dsTo, getD_at hy, if_neg (by omega)]
    split
    · rename_i h
      have hj : j < L.length := by have := (List.getElem?_eq_some_iff.1 hy).1; omega
      have h' : L.getD j 0 = 0 := h.2
      rw [getD_at (get_at hj)] at h'
      rw [bump_len]
      exact ih (by omega) (by rw [get_at hj, h', e])
    · simp
/-- a run of dry days is one spell -/
theorem ds_run {L : List Int} {i : Nat} (hp : i = 0 ∨ ∃ y, L[i - 1]? = some y ∧ y ≠ 0) : ∀ m, i + m < L.length → (∀ j, i ≤ j → j ≤ i + m → L[j]? = some 0) → dsTo L (i + m + 1) = dsTo L i ++ [((i : Int), (m : Int) + 1)]
  | 0, _, h => by rw [Nat.add_zero, ds_app (h i (Nat.le_refl _) (Nat.le_refl _)) (by omega) hp]; rfl
  | m + 1, hl, h => by
    have ih := ds_run hp m (by omega) (fun j h1 h2 => h j h1 (by omega))
    rw [show i + (m + 1) + 1 = (i + m + 1) + 1 by omega, ds_bump (h (i + m + 1) (by omega) (by omega)) (by omega) (by omega) (h (i + m) (by omega) (by omega)) rfl, ih, bump_snoc]
    simp
theorem ds_end {L : List Int} {i q : Nat} (hp : i = 0 ∨ ∃ y, L[i - 1]? = some y ∧ y ≠ 0) (hiq : i < q) (hq : q ≤ L.length) (hz : ∀ j, i ≤ j → j < q → L[j]? = some 0) : dsTo L q = dsTo L i ++ [((i : Int), (q : Int) - i)] := by
  have h := ds_run hp (q - i - 1) (by omega) (fun j h1 h2 => hz j h1 (by omega))
  rw [show i + (q - i - 1) + 1 = q by omega] at h
  rw [h]
  congr 3
  omega
def rowOf (S : List (Int × Int)) (j : Nat) : List Int := [(S.getD j (0, 0)).1, (S.getD j (0, 0)).2]
theorem rowOf_snoc (X : List (Int × Int)) (a b : Int) (j : Nat) (h : j < X.length + 1) : (if j < X.length then rowOf X j else [a, b]) = rowOf (X ++ [(a, b)]) j := by
  by_cases hj : j < X.length
  · rw [if_pos hj]; simp [rowOf, List.getD, List.getElem?_append_left hj]
  · obtain rfl : j = X.length := by omega
    rw [if_neg hj]; simp [rowOf, List.getD]
theorem rowOf_bump (S : List (Int × Int)) (x y : Int) (i j : Nat) (hi : i = S.length - 1) (hg : S[i]? = some (x, y)) : (if j = i then [x, y + 1] else rowOf S j) = rowOf (bump S) j := by
  obtain ⟨hl, _⟩ := List.getElem?_eq_some_iff.1 hg
  subst hi
  unfold rowOf bump
  rw [getD_at hg]
  by_cases e : j = S.length - 1
  · subst e
    rw [if_pos rfl]
    simp [List.getD, hl]
  · rw [if_neg e]
    simp [List.getD, List.getElem?_set_ne (fun h => e h.symm)]
def selTo (S : List (Int × Int)) (a : Int) (k : Nat) : List Nat := (List.range k).filter (fun j => decide (a ≤ (S.getD j (0, 0)).2))
theorem sel_yes {S : List (Int × Int)} {a : Int} {k : Nat} (h : a ≤ (S.getD k (0, 0)).2) : selTo S a (k + 1) = selTo S a k ++ [k] := by rw [selTo, List.range_succ, List.filter_append, List.filter_cons_of_pos (p := fun j => decide (a ≤ (S.getD j (0, 0)).2)) (decide_eq_true h), List.filter_nil]; rfl
theorem sel_no {S : List (Int × Int)} {a : Int} {k : Nat} (h : ¬ a ≤ (S.getD k (0, 0)).2) : selTo S a (k + 1) = selTo S a k := by rw [selTo, List.range_succ, List.filter_append, List.filter_cons_of_neg (p := fun j => decide (a ≤ (S.getD j (0, 0)).2)) (by rw [decide_eq_false h]; decide), List.filter_nil, List.append_nil]; rfl
theorem sel_len (S : List (Int × Int)) (a : Int) (k : Nat) : (selTo S a k).length ≤ k := Nat.le_trans (List.length_filter_le _ _) (by simp)
theorem sel_lt {S : List (Int × Int)} {a : Int} {k j : Nat} (h : j ∈ selTo S a k) : j < k := by simp [selTo] at h; exact h.1
theorem sel_up (S : List (Int × Int)) (a : Int) (k : Nat) : (selTo S a k).Pairwise (· < ·) := List.Pairwise.filter _ List.pairwise_lt_range
def dryCode (L : List Int) (a : Int) : Int := code3 (rainOk L) (inB a 1 120)
/-- the spells that are asked for -/
def dryJs (L : List Int) (a : Int) : List Nat := if dryCode L a = 0 then selTo (dsTo L L.length) a (dsTo L L.length).length else []
def dryF (L : List Int) (a : Int) (i : Nat) : List Int := rowOf (dsTo L L.length) ((dryJs L a).getD i 0)
theorem dryJs_len (L : List Int) (a : Int) : (dryJs L a).length ≤ 120 := by
  unfold dryJs
  split
  · rename_i h
    have hr : rainOk L = true := by
      cases h1 : rainOk L
      · simp [dryCode, code3, h1] at h
      · rfl
    have := rainOk_len hr
    have := (ds_good L L.length).1
    have := sel_len (dsTo L L.length) a (dsTo L L.length).length
    omega
  · simp

set_option maxHeartbeats 2000000 in
theorem spells_c (A : Option Addr) (c : Nat) (L : List Int) (w : World) (hR : Rd e1 1 w w.heap.size A L) (h : rainOk L = true) :
    Calls Try.prog 41 #[.slice A L.length c] w fun e w' => ∃ v vs, e = .returned v ∧ vs.length = (dsTo L L.length).length ∧ OwnV e1 1 w' w.heap.size w'.heap.size 2 22 v vs (rowOf (dsTo L L.length)) ∧ Below w.heap.size w w' := by
  have hl := rainOk_len h
  have H1 := Lib.hid h
  clear h
  go_enter Try.func41, Try.ntmps41
  go_wp2
  go_loopw [3, 9] (fun v i wr => ∃ (k : Nat) (vs : List Value), k ≤ L.length ∧ i = .int .i64 k ∧ vs.length = (dsTo L k).length ∧ OwnV e1 1 wr w.heap.size wr.heap.size 2 22 v vs (rowOf (dsTo L k)) ∧ Below w.heap.size w wr) (fun _ i _ => L.length - (intOf i).toNat)
  case atStart => exact ⟨0, [], by omega, rfl, rfl, OwnV.empty_ (Nat.le_refl _), below_alloc1 w _⟩
  case round =>
    obtain ⟨k, vs, hk, rfl, hvl, hO, hb⟩ := hrel
    have hsz := hb.size
    by_cases hlt : k < L.length
    · obtain ⟨b, off, rfl, hbb, hc⟩ := (hR.below hb).at1 hlt
      have k0 := hc k _ (get_at hlt)
      have HX := Lib.hid (get_at hlt)
      obtain ⟨g1, g2⟩ := rainOk_at H1.out HX.out
      obtain ⟨d1, hd2⟩ := ds_good L k
      have HD2 := Lib.hid hd2
      have HC := Lib.hid hc
      have HO := Lib.hid hO
      have HB := Lib.hid hb
      have HVL := Lib.hid hvl
      have hvn : vs.length ≤ k := by omega
      clear hd2 hc hO hb hvl hR
      generalize L[k] = x at *
      by_cases c1 : 0 < x
      · have HD := Lib.hid (ds_yes HX.out c1)
        go_wp2
        go_roundw
        case rel => exact ⟨k + 1, vs, by omega, by go_num, by rw [HD.out]; exact HVL.out, by rw [HD.out]; exact HO.out, HB.out⟩
        case measure => simp [intOf]; omega
      · obtain rfl : x = 0 := by omega
        by_cases h0 : k = 0
        · have HD := Lib.hid (ds_app HX.out (by omega) (.inl h0))
          have h00 : ¬ (0 < (k : Int)) := by omega
          clear c1 h0
          go_wp2_with (at_builtin; refine appVInt64 _ _ rfl rfl _ vs (some ⟨wr.heap.size, 0, none⟩) 2 2 rfl (HO.out.outer.call (below_alloc1 _ _)) (HB.out.alloc hsz _) rfl (by simp) (by have := HVL.out; omega) ?_; intro v2 w2 hown2 hb2 hg2 hat2; have HO2 := Lib.hid (HO.out.push hsz (below_alloc1 wr (.cells #[.int .i64 (k : Int), .int .i64 1] 2)) (l := [(k : Int), 1]) (Blk.own (L := [(k : Int), 1]) len_x1 (Blk.new wr 2 #[.int .i64 (k : Int), .int .i64 1]) (Nat.le_refl _) (by unfold maxLen; simp)) hown2 hg2 hat2); clear hown2 hg2 hat2)
          go_roundw
          case rel => exact ⟨k + 1, vs ++ [.slice (some ⟨wr.heap.size, 0, none⟩) 2 2], by omega, by go_num, by rw [HD.out, List.length_append, List.length_append, HVL.out]; rfl, by rw [HD.out]; refine HO2.out.congr (fun j hj => ?_); rw [HVL.out]; exact rowOf_snoc _ _ _ j (by simpa [HVL.out] using hj), hb2⟩
          case measure => simp [intOf]; omega
        · have hk1 : k - 1 < L.length := by omega
          have p0 := HC.out (k - 1) _ (get_at hk1)
          have HY := Lib.hid (get_at hk1)
          obtain ⟨q1, q2⟩ := rainOk_at H1.out HY.out
          have i1 : (k : Int) - 1 = ((k - 1 : Nat) : Int) := by omega
          have hpos : 0 < (k : Int) := by omega
          generalize L[k - 1] = y at *
          by_cases c2 : y = 0
          · subst c2
            have HD := Lib.hid (ds_bump HX.out c1 (by omega) HY.out rfl)
            have hp1 := ds_pos (L := L) (k := k) (by omega) HY.out rfl
            rw [← HVL.out] at hp1
            have hm : vs.length - 1 < vs.length := by omega
            have hm2 : vs.length - 1 < (dsTo L k).length := by rw [← HVL.out]; exact hm
            have HSM := Lib.hid (get_at hm2)
            have hd := HD2.out _ (List.getElem_mem hm2)
            have HRO := Lib.hid (show rowOf (dsTo L k) (vs.length - 1) = [(dsTo L k)[vs.length - 1].1, (dsTo L k)[vs.length - 1].2] by rw [rowOf, getD_at HSM.out])
            obtain ⟨Av, cv, rfl⟩ := HO.out.form
            obtain ⟨g, og, rfl, hg, hcc⟩ := Own.rd_ len_ev HO.out.outer rfl (by omega)
            have o0 := hcc (vs.length - 1) hm 0 _ rfl
            rw [Nat.mul_one, Nat.add_zero] at o0
            obtain ⟨hui, _⟩ := HO.out.inner _ _ (get_at hm)
            rw [HRO.out] at hui
            obtain ⟨Au, cu, hue⟩ := own_form hui
            rw [hue] at hui
            obtain ⟨gu, rest, rfl, _, hbg, hlc, hcm, hlen, hBK⟩ := Own.blk hui (by simp)
            rw [hue] at o0
            have u1 : wr.cell? ⟨gu, 1, none⟩ = some (.int .i64 (dsTo L k)[vs.length - 1].2) := by rw [hBK.cell]; rfl
            have hfz := hBK.frozen
            have hgw := hBK.lt
            have HBK := Lib.hid hBK
            have HUE := Lib.hid hue
            have HLEN := Lib.hid hlen
            have HHM := Lib.hid (get_at hm)
            have i2 : (vs.length : Int) - 1 = ((vs.length - 1 : Nat) : Int) := by omega
            obtain ⟨w1', w2', w3', w4'⟩ := hd
            clear hcc hui hue hlen hBK c1
            generalize hS : (dsTo L k)[vs.length - 1] = sp at *
            obtain ⟨s0, s1⟩ := sp
            simp only at *
            have HSS := Lib.hid hS
            clear hS
            simp only [List.length_cons, List.length_nil, Nat.zero_add, Nat.reduceAdd] at o0 hlc
            go_wp2
            go_roundw
            case rel =>
              refine ⟨k + 1, vs, by omega, by go_num, by rw [HD.out, bump_len]; exact HVL.out, ?_, HB.out.setCell (by omega) _⟩
              rw [HD.out]
              refine OwnV.top_ (OwnV.congr (HO.out.upd (L' := [s0, s1 + 1]) HHM.out ?_ ?_) (fun j hj => rowOf_bump _ s0 s1 _ j (by rw [HVL.out]) HSM.out))
              · rw [HUE.out]; exact grown_set (grown_refl _ _) 1 _
              · rw [HUE.out]
                exact Own.cast (Blk.own_rest (rest := rest) (L := [s0, s1 + 1]) len_x1 (HBK.out.set_ 1 _) hbg hlc hcm HLEN.out) rfl
            case measure => simp [intOf]; omega
          · have HD := Lib.hid (ds_app HX.out (by omega) (.inr ⟨y, HY.out, c2⟩))
            have e2' : (y == 0) = false := beq_eq_false_iff_ne.2 c2
            clear c1
            go_wp2_with (at_builtin; refine appVInt64 _ _ rfl rfl _ vs (some ⟨wr.heap.size, 0, none⟩) 2 2 rfl (HO.out.outer.call (below_alloc1 _ _)) (HB.out.alloc hsz _) rfl (by simp) (by have := HVL.out; omega) ?_; intro v2 w2 hown2 hb2 hg2 hat2; have HO2 := Lib.hid (HO.out.push hsz (below_alloc1 wr (.cells #[.int .i64 (k : Int), .int .i64 1] 2)) (l := [(k : Int), 1]) (Blk.own (L := [(k : Int), 1]) len_x1 (Blk.new wr 2 #[.int .i64 (k : Int), .int .i64 1]) (Nat.le_refl _) (by unfold maxLen; simp)) hown2 hg2 hat2); clear hown2 hg2 hat2)
            go_roundw
            case rel => exact ⟨k + 1, vs ++ [.slice (some ⟨wr.heap.size, 0, none⟩) 2 2], by omega, by go_num, by rw [HD.out, List.length_append, List.length_append, HVL.out]; rfl, by rw [HD.out]; refine HO2.out.congr (fun j hj => ?_); rw [HVL.out]; exact rowOf_snoc _ _ _ j (by simpa [HVL.out] using hj), hb2⟩
            case measure => simp [intOf]; omega
    · obtain rfl : k = L.length := by omega
      go_wp2
      go_ret
      exact ⟨_, vs, rfl, hvl, hO, hb⟩

set_option maxHeartbeats 2000000 in
theorem l06Dry_c (A : Option Addr) (c : Nat) (L : List Int) (w : World) (hR : Rd e1 1 w w.heap.size A L) (h : rainOk L = true) :
    Calls Try.prog 38 #[.slice A L.length c] w fun e w' => ∃ v vs, e = .returned v ∧ vs.length = (dsTo L L.length).length ∧ OwnV e1 1 w' w.heap.size w'.heap.size 2 22 v vs (rowOf (dsTo L L.length)) ∧ Below w.heap.size w w' := by
  have hl := rainOk_len h
  have H1 := Lib.hid h
  clear h
  go_enter Try.func38, Try.ntmps38
  go_wp2
  go_loopw [3, 4] (fun v i wr => ∃ (k : Nat) (vs : List Value), k ≤ L.length + 1 ∧ i = .int .i64 k ∧ Hid (k = 0 ∨ L.length < k ∨ ∃ y, L[k - 1]? = some y ∧ y ≠ 0) ∧ Hid (vs.length = (dsTo L (min k L.length)).length) ∧ OwnV e1 1 wr w.heap.size wr.heap.size 2 22 v vs (rowOf (dsTo L (min k L.length))) ∧ Below w.heap.size w wr) (fun _ i _ => L.length + 1 - (intOf i).toNat)
  case atStart => exact ⟨0, [], by omega, rfl, Lib.hid (.inl rfl), Lib.hid (by rw [Nat.zero_min]; rfl), OwnV.empty_ (Nat.le_refl _), below_alloc1 w _⟩
  case round =>
    obtain ⟨i, vs, hi, rfl, HP, HVL, hO, hb⟩ := hrel
    have hsz := hb.size
    have HB := Lib.hid hb
    by_cases hlt : i < L.length
    · have hmi : min i L.length = i := by omega
      rw [hmi] at hO
      have HVL2 := Lib.hid (show vs.length = (dsTo L i).length by have := HVL.out; rwa [hmi] at this)
      have HP2 := Lib.hid (show i = 0 ∨ ∃ y, L[i - 1]? = some y ∧ y ≠ 0 by rcases HP.out with h | h | h <;> first | exact .inl h | exact .inr h | omega)
      have HO := Lib.hid hO
      have hvn : vs.length ≤ i := by rw [HVL2.out]; exact (ds_good L i).1
      clear hO hb HVL HP hmi
      obtain ⟨wo, hwo⟩ : ∃ wo : World, wo = wr := ⟨_, rfl⟩
      subst hwo
      go_wp2
      go_loopw [5] (fun j wi => ∃ q : Nat, i ≤ q ∧ q ≤ L.length ∧ j = .int .i64 q ∧ wo = wi ∧ Hid (∀ j, i ≤ j → j < q → L[j]? = some 0)) (fun j _ => L.length - (intOf j).toNat)
      case atStart => exact ⟨i, Nat.le_refl _, by omega, rfl, rfl, Lib.hid (fun j h1 h2 => by omega)⟩
      case round =>
        obtain ⟨q, hiq, hq, rfl, rfl, HZ⟩ := hrel
        by_cases hql : q < L.length
        · obtain ⟨b, off, rfl, hbb, hc⟩ := (hR.below HB.out).at1 hql
          have k0 := hc q _ (get_at hql)
          have HX := Lib.hid (get_at hql)
          obtain ⟨g1, g2⟩ := rainOk_at H1.out HX.out
          clear hc
          generalize L[q] = x at *
          by_cases hx : x = 0
          · subst hx
            go_wp2
            go_roundw
            case rel => exact ⟨q + 1, by omega, by omega, by go_num, by trivial, Lib.hid (fun j h1 h2 => by rcases Nat.lt_or_ge j q with h3 | h3 <;> first | exact HZ.out j h1 h3 | (rw [show j = q by omega]; exact HX.out))⟩
            case measure => simp [intOf]; omega
          · have hxb : (x == 0) = false := beq_eq_false_iff_ne.2 hx
            have HPN := Lib.hid (show q + 1 = 0 ∨ L.length < q + 1 ∨ ∃ y, L[q + 1 - 1]? = some y ∧ y ≠ 0 from .inr (.inr ⟨x, HX.out, hx⟩))
            have HY := Lib.hid (show dsTo L (min (q + 1) L.length) = dsTo L q by rw [show min (q + 1) L.length = q + 1 by omega]; exact ds_yes HX.out (by omega))
            by_cases hne : i < q
            · have HD := Lib.hid (show dsTo L (min (q + 1) L.length) = dsTo L i ++ [((i : Int), (q : Int) - i)] by rw [HY.out]; exact ds_end HP2.out hne hq HZ.out)
              clear hx
              go_wp2_with (at_builtin; refine appVInt64 _ _ rfl rfl _ vs (some ⟨wo.heap.size, 0, none⟩) 2 2 rfl (HO.out.outer.call (below_alloc1 _ _)) (HB.out.alloc hsz _) rfl (by simp) (by omega) ?_; intro v2 w2 hown2 hb2 hg2 hat2; have HO2 := Lib.hid (HO.out.push hsz (below_alloc1 wo (.cells #[.int .i64 (i : Int), .int .i64 ((q : Int) - i)] 2)) (l := [(i : Int), (q : Int) - i]) (Blk.own (L := [(i : Int), (q : Int) - i]) len_x1 (Blk.new wo 2 #[.int .i64 (i : Int), .int .i64 ((q : Int) - i)]) (Nat.le_refl _) (by unfold maxLen; simp)) hown2 hg2 hat2); clear hown2 hg2 hat2)
              go_roundw
              case rel => exact ⟨q + 1, vs ++ [.slice (some ⟨wo.heap.size, 0, none⟩) 2 2], by omega, by go_num, HPN, Lib.hid (by rw [HD.out, List.length_append, List.length_append, HVL2.out]; rfl), by rw [HD.out]; refine HO2.out.congr (fun j hj => ?_); rw [HVL2.out]; exact rowOf_snoc _ _ _ j (by simpa [HVL2.out] using hj), hb2⟩
              case measure => simp [intOf]; omega
            · obtain rfl : i = q := by omega
              clear hx hne hiq
              go_wp2
              go_roundw
              case rel => exact ⟨i + 1, vs, by omega, by go_num, HPN, Lib.hid (by rw [HY.out]; exact HVL2.out), by rw [HY.out]; exact HO.out, HB.out⟩
              case measure => simp [intOf]; omega
        · obtain rfl : q = L.length := by omega
          have HPN := Lib.hid (show L.length + 1 = 0 ∨ L.length < L.length + 1 ∨ ∃ y, L[L.length + 1 - 1]? = some y ∧ y ≠ 0 from .inr (.inl (by omega)))
          have HD := Lib.hid (show dsTo L (min (L.length + 1) L.length) = dsTo L i ++ [((i : Int), (L.length : Int) - i)] by rw [show min (L.length + 1) L.length = L.length by omega]; exact ds_end HP2.out hlt (Nat.le_refl _) HZ.out)
          go_wp2_with (at_builtin; refine appVInt64 _ _ rfl rfl _ vs (some ⟨wo.heap.size, 0, none⟩) 2 2 rfl (HO.out.outer.call (below_alloc1 _ _)) (HB.out.alloc hsz _) rfl (by simp) (by omega) ?_; intro v2 w2 hown2 hb2 hg2 hat2; have HO2 := Lib.hid (HO.out.push hsz (below_alloc1 wo (.cells #[.int .i64 (i : Int), .int .i64 ((L.length : Int) - i)] 2)) (l := [(i : Int), (L.length : Int) - i]) (Blk.own (L := [(i : Int), (L.length : Int) - i]) len_x1 (Blk.new wo 2 #[.int .i64 (i : Int), .int .i64 ((L.length : Int) - i)]) (Nat.le_refl _) (by unfold maxLen; simp)) hown2 hg2 hat2); clear hown2 hg2 hat2)
          go_roundw
          case rel => exact ⟨L.length + 1, vs ++ [.slice (some ⟨wo.heap.size, 0, none⟩) 2 2], by omega, by go_num, HPN, Lib.hid (by rw [HD.out, List.length_append, List.length_append, HVL2.out]; rfl), by rw [HD.out]; refine HO2.out.congr (fun j hj => ?_); rw [HVL2.out]; exact rowOf_snoc _ _ _ j (by simpa [HVL2.out] using hj), hb2⟩
          case measure => simp [intOf]; omega
    · have hmi : min i L.length = L.length := by omega
      rw [hmi] at hO
      have HVL2 := Lib.hid (show vs.length = (dsTo L L.length).length by have := HVL.out; rwa [hmi] at this)
      clear hmi
      go_wp2
      go_ret
      exact ⟨_, vs, rfl, HVL2.out, hO, hb⟩

end Go.Proofs.Ytbaffjjafkpcfaa
