/- The contracts of the functions on a dike that make lists: weak sections, a dike raised, cut, joined. -/
import Derived.Test.YtmebjbfgbejigaaDike2
import Derived.Test.YtmebjbfgbejigaaMark
import Derived.Test.YtmebjbfgbejigaaApp
namespace Go.Proofs.Ytmebjbfgbejigaa
open Go.RowKit

def wsP (L : List (Int × Int)) (lv le : Int) (k : Nat) : Bool := decide ((L.getD k (0, 0)).2 - lv < le)
def wsOk (L : List (Int × Int)) (lv le : Int) : Bool := dikeOk L && (inB lv (-2000) 2000 && inB le 0 4000)
def wsList (L : List (Int × Int)) (lv le : Int) : List Int := if wsOk L lv le then whr (wsP L lv le) L.length else []
theorem wsList_len {L : List (Int × Int)} (lv le : Int) : (wsList L lv le).length ≤ 30 := by
  unfold wsList
  split
  · rename_i h
    have := whr_len (wsP L lv le) L.length
    simp only [wsOk, Bool.and_eq_true] at h
    have := dikeOk_len h.1
    omega
  · simp
set_option maxHeartbeats 1000000 in
theorem WeakSections_clo (A : Option Addr) (c : Nat) (L : List (Int × Int)) (lv le : Int) (k b0 b1 b2 : Nat) (W : World) (hR : Rd e2 2 W W.heap.size A L) (hk : k < L.length) (hx : ∀ (k : Nat) x, L[k]? = some x → -2000 ≤ x.2 ∧ x.2 ≤ 2000) (h1 : -2000 ≤ lv) (h2 : lv ≤ 2000)
    (q0 : W.cell? ⟨b0, 0, none⟩ = some (.slice A L.length c)) (q1 : W.cell? ⟨b1, 0, none⟩ = some (.int .i64 lv)) (q2 : W.cell? ⟨b2, 0, none⟩ = some (.int .i64 le)) :
    Calls Try.prog 67 #[.int .i64 k, .pointer (some ⟨b0, 0, none⟩), .pointer (some ⟨b1, 0, none⟩), .pointer (some ⟨b2, 0, none⟩)] W fun e W' => e = .returned (.bool (wsP L lv le k)) ∧ Below W.heap.size W W' := by
  obtain ⟨b, off, rfl, hbb, hc⟩ := hR.at2 hk
  have ⟨k0, k1⟩ := hc k _ (get_at hk)
  obtain ⟨x1, x2⟩ := hx k _ (get_at hk)
  have HV := Lib.hid (show wsP L lv le k = decide (L[k].2 - lv < le) by rw [wsP, getD_at (get_at hk)])
  clear hc hR hx
  generalize L[k] = x at *
  go_enter Try.func67, Try.ntmps67
  go_wp2
  go_quiet (fail)
  go_wp2
  go_ret
  exact ⟨ret_bool HV.out.symm, (by repeat (first | (with_reducible exact Below.refl _ _) | (with_reducible assumption) | (with_reducible refine Below.drew ?_) | (with_reducible refine bel_dN ?_ _) | (with_reducible refine Below.alloc ?_ ?_ _) | (with_reducible refine Below.setCell ?_ ?_ _) | (refine bel_call ?_ (by with_reducible assumption) ?_) | omega | (focus (dsimp only; omega)) | (with_reducible refine sz_al ?_) | (with_reducible refine sz_sc ?_) | (with_reducible refine sz_dr ?_) | (with_reducible refine sz_dN ?_)))⟩

set_option maxHeartbeats 1000000 in
theorem WeakSections_c (A : Option Addr) (c : Nat) (L : List (Int × Int)) (lv le : Int) (w : World) (hR : Rd e2 2 w w.heap.size A L) (hn : L.length ≤ maxLen) :
    Calls Try.prog 31 #[.slice A L.length c, .int .i64 lv, .int .i64 le] w fun e w' => ∃ v, e = .returned (.tuple #[v, .int .i64 (code3 (dikeOk L) (inB lv (-2000) 2000 && inB le 0 4000))]) ∧ Own e1 1 w' w.heap.size 2 v (wsList L lv le) ∧ Below w.heap.size w w' := by
  have hbx : Below w.heap.size w (((w.alloc (.cells #[.slice A L.length c] 26)).alloc (.cells #[.int .i64 lv] 2)).alloc (.cells #[.int .i64 le] 2)) := (by repeat (first | (with_reducible exact Below.refl _ _) | (with_reducible assumption) | (with_reducible refine Below.drew ?_) | (with_reducible refine bel_dN ?_ _) | (with_reducible refine Below.alloc ?_ ?_ _) | (with_reducible refine Below.setCell ?_ ?_ _) | (refine bel_call ?_ (by with_reducible assumption) ?_) | omega | (focus (dsimp only; omega)) | (with_reducible refine sz_al ?_) | (with_reducible refine sz_sc ?_) | (with_reducible refine sz_dr ?_) | (with_reducible refine sz_dN ?_)))
  have hR3 := (hR.below hbx).more hbx.size
  have HB0 := Lib.hid (((Blk.new w 26 #[.slice A L.length c]).alloc (.cells #[.int .i64 lv] 2)).alloc (.cells #[.int .i64 le] 2))
  have HB1 := Lib.hid ((Blk.new (w.alloc (.cells #[.slice A L.length c] 26)) 2 #[.int .i64 lv]).alloc (.cells #[.int .i64 le] 2))
  have HB2 := Lib.hid (Blk.new ((w.alloc (.cells #[.slice A L.length c] 26)).alloc (.cells #[.int .i64 lv] 2)) 2 #[.int .i64 le])
  have HRB := Lib.hid hR3
  have HBX := Lib.hid hbx
  clear hR3 hbx
  cases h : dikeOk L
  · have HF := Lib.hid (show wsList L lv le = [] by simp [wsList, wsOk, h])
    have H1 := Lib.hid h
    clear h
    go_enter Try.func31, Try.ntmps31
    go_wp2_with fail
    refine (isDikeAt_c _ _ _ lv _ HRB.out hn).mono ?_
    rintro e w1 ⟨rfl, hb1⟩
    rw [H1.out]
    simp only [code3, Bool.false_eq_true, if_false]
    go_wp2
    go_ret2
    exact ⟨_, rfl, by rw [HF.out]; exact own_empty_at (bel_call HBX.out hb1 HBX.out.size).size, by have := bel_call HBX.out hb1 HBX.out.size; exact this.alloc this.size _⟩
  have H1 := Lib.hid h
  cases h2 : inB lv (-2000) 2000
  · have HF := Lib.hid (show wsList L lv le = [] by simp [wsList, wsOk, h2])
    have H2 := Lib.hid h2
    clear h h2
    go_enter Try.func31, Try.ntmps31
    go_wp2_with fail
    refine (isDikeAt_c _ _ _ lv _ HRB.out hn).mono ?_
    rintro e w1 ⟨rfl, hb1⟩
    rw [H1.out, H2.out]
    simp only [code3, Bool.false_eq_true, if_false, if_true]
    go_wp2
    go_ret2
    exact ⟨_, rfl, by rw [HF.out]; exact own_empty_at (bel_call HBX.out hb1 HBX.out.size).size, by have := bel_call HBX.out hb1 HBX.out.size; exact this.alloc this.size _⟩
  have H2 := Lib.hid h2
  have g12 := inB_iff.1 h2
  have hl := dikeOk_len h
  have HX : Hid (∀ (k : Nat) x, L[k]? = some x → -2000 ≤ x.2 ∧ x.2 ≤ 2000) := fun k x hx => (dikeOk_at h hx).2
  cases h3 : inB le 0 4000
  · have HF := Lib.hid (show wsList L lv le = [] by simp [wsList, wsOk, h3])
    have H3 := Lib.hid h3
    clear h h2 h3
    go_enter Try.func31, Try.ntmps31
    go_wp2_with fail
    refine (isDikeAt_c _ _ _ lv _ HRB.out hn).mono ?_
    rintro e w1 ⟨rfl, hb1⟩
    rw [H1.out, H2.out]
    have q2 : w1.cell? ⟨w.heap.size + 1 + 1, 0, none⟩ = some (.int .i64 le) := (HB2.out.call hb1).cell_at (by simp) 0 rfl
    simp only [code3, if_true]
    go_wp2_with fail
    refine (in_c _ _ _ _).mono ?_
    rintro e w' ⟨rfl, rfl⟩
    rw [H3.out]
    go_wp2
    go_ret2
    exact ⟨_, rfl, by rw [HF.out]; exact own_empty_at (bel_call HBX.out hb1 HBX.out.size).size, by have := bel_call HBX.out hb1 HBX.out.size; exact this.alloc this.size _⟩
  · have HF := Lib.hid (show wsList L lv le = whr (wsP L lv le) L.length by simp [wsList, wsOk, h, h2, h3])
    have H3 := Lib.hid h3
    obtain ⟨g1, g2⟩ := g12
    clear h h2 h3
    go_enter Try.func31, Try.ntmps31
    go_wp2_with fail
    refine (isDikeAt_c _ _ _ lv _ HRB.out hn).mono ?_
    rintro e w1 ⟨rfl, hb1⟩
    rw [H1.out, H2.out]
    have q0 : w1.cell? ⟨w.heap.size, 0, none⟩ = some (.slice A L.length c) := (HB0.out.call hb1).cell_at (by simp) 0 rfl
    have q1 : w1.cell? ⟨w.heap.size + 1, 0, none⟩ = some (.int .i64 lv) := (HB1.out.call hb1).cell_at (by simp) 0 rfl
    have q2 : w1.cell? ⟨w.heap.size + 1 + 1, 0, none⟩ = some (.int .i64 le) := (HB2.out.call hb1).cell_at (by simp) 0 rfl
    have HR1 := Lib.hid (HRB.out.call hb1)
    have HBC := Lib.hid (bel_call HBX.out hb1 HBX.out.size)
    clear hb1
    simp only [code3, if_true]
    go_wp2_with fail
    refine (in_c _ _ _ _).mono ?_
    rintro e w' ⟨rfl, rfl⟩
    rw [H3.out]
    go_wp2_with fail
    refine (sizeSection_c _ _ _ _ hn).mono ?_
    rintro e w' ⟨rfl, rfl⟩
    go_wp2_with fail
    refine (indicesWhere_WeakSections _ _ _ _ (wsP L lv le) _ (by omega) (fun k W hk hb => WeakSections_clo A c L lv le k _ _ _ W ((HR1.out.below hb).more hb.size) hk HX.out g1 g2 (kc hb q0) (kc hb q1) (kc hb q2))).mono ?_
    rintro e w2 ⟨v, rfl, hown, hb2⟩
    have hsz := HBC.out.size
    go_wp2
    go_ret2
    exact ⟨v, rfl, by rw [HF.out]; exact hown.base_ hsz, bel_call HBC.out hb2 hsz⟩

set_option maxHeartbeats 2000000 in
theorem lWeakSections_c (A : Option Addr) (c : Nat) (L : List (Int × Int)) (lv le : Int) (w : World) (hR : Rd e2 2 w w.heap.size A L) (hn : L.length ≤ maxLen) :
    Calls Try.prog 30 #[.slice A L.length c, .int .i64 lv, .int .i64 le] w fun e w' => ∃ v, e = .returned (.tuple #[v, .int .i64 (code3 (dikeOk L) (inB lv (-2000) 2000 && inB le 0 4000))]) ∧ Own e1 1 w' w.heap.size 2 v (wsList L lv le) ∧ Below w.heap.size w w' := by
  cases h : dikeOk L
  · have HF := Lib.hid (show wsList L lv le = [] by simp [wsList, wsOk, h])
    have H1 := Lib.hid h
    clear h
    go_enter Try.func30, Try.ntmps30
    go_wp2_with fail
    refine (l07Code_c _ _ _ lv _ hR hn).mono ?_
    rintro e w1 ⟨rfl, hb1⟩
    rw [H1.out]
    simp only [code3, Bool.false_eq_true, if_false]
    go_wp2
    go_ret2
    exact ⟨_, rfl, by rw [HF.out]; exact Own.nil_, hb1⟩
  have H1 := Lib.hid h
  cases h2 : inB lv (-2000) 2000
  · have HF := Lib.hid (show wsList L lv le = [] by simp [wsList, wsOk, h2])
    have H2 := Lib.hid h2
    clear h h2
    go_enter Try.func30, Try.ntmps30
    go_wp2_with fail
    refine (l07Code_c _ _ _ lv _ hR hn).mono ?_
    rintro e w1 ⟨rfl, hb1⟩
    rw [H1.out, H2.out]
    simp only [code3, Bool.false_eq_true, if_false, if_true]
    go_wp2
    go_ret2
    exact ⟨_, rfl, by rw [HF.out]; exact Own.nil_, hb1⟩
  have H2 := Lib.hid h2
  have g12 := inB_iff.1 h2
  have hl := dikeOk_len h
  have HX : Hid (∀ (k : Nat) x, L[k]? = some x → -2000 ≤ x.2 ∧ x.2 ≤ 2000) := fun k x hx => (dikeOk_at h hx).2
  cases h3 : inB le 0 4000
  · have HF := Lib.hid (show wsList L lv le = [] by simp [wsList, wsOk, h3])
    have H3 := Lib.hid h3
    clear h h2 h3
    go_enter Try.func30, Try.ntmps30
    go_wp2_with fail
    refine (l07Code_c _ _ _ lv _ hR hn).mono ?_
    rintro e w1 ⟨rfl, hb1⟩
    rw [H1.out, H2.out]
    simp only [code3, if_true]
    go_wp2_with fail
    refine (lin_c _ _ _ _).mono ?_
    rintro e w' ⟨rfl, rfl⟩
    rw [H3.out]
    go_wp2
    go_ret2
    exact ⟨_, rfl, by rw [HF.out]; exact Own.nil_, hb1⟩
  · have HF := Lib.hid (show wsList L lv le = whr (wsP L lv le) L.length by simp [wsList, wsOk, h, h2, h3])
    have H3 := Lib.hid h3
    obtain ⟨g1, g2⟩ := g12
    clear h h2 h3
    go_enter Try.func30, Try.ntmps30
    go_wp2_with fail
    refine (l07Code_c _ _ _ lv _ hR hn).mono ?_
    rintro e w1 ⟨rfl, hb1⟩
    rw [H1.out, H2.out]
    simp only [code3, if_true]
    go_wp2_with fail
    refine (lin_c _ _ _ _).mono ?_
    rintro e w' ⟨rfl, rfl⟩
    rw [H3.out]
    go_wp2
    have hsz1 := hb1.size
    go_loopw [9, 10] (fun v i wr => ∃ k : Nat, k ≤ L.length ∧ i = .int .i64 k ∧ Own e1 1 wr w.heap.size 2 v (whr (wsP L lv le) k) ∧ Below w.heap.size w wr) (fun _ i _ => L.length - (intOf i).toNat)
    case atStart => exact ⟨0, by omega, rfl, own_empty_at hb1.size, hb1.alloc hb1.size _⟩
    case round =>
      obtain ⟨k, hk, rfl, hown, hb⟩ := hrel
      have hsz := hb.size
      have hwl := whr_len (wsP L lv le) k
      by_cases hlt : k < L.length
      · obtain ⟨b, off, rfl, hbb, hc⟩ := (hR.below hb).at2 hlt
        have ⟨k0, k1⟩ := hc k _ (get_at hlt)
        obtain ⟨x1, x2⟩ := HX.out k _ (get_at hlt)
        have HV := Lib.hid (show wsP L lv le k = decide (L[k].2 - lv < le) by rw [wsP, getD_at (get_at hlt)])
        have HO := Lib.hid hown
        have HB := Lib.hid hb
        clear hc hR hown hb hb1
        generalize L[k] = x at *
        by_cases hm : x.2 - lv < le
        · have HQ := Lib.hid (whr_yes (show wsP L lv le k = true by rw [HV.out]; exact decide_eq_true hm))
          go_wp2_with (at_builtin; refine appInt64 _ _ rfl rfl _ (whr (wsP L lv le) k) (k : Int) rfl HO.out HB.out rfl (by simp) (by omega) ?_; intro v2 w2 hown2 hb2)
          go_roundw
          case rel => exact ⟨k + 1, by omega, by go_num, by rw [HQ.out]; exact hown2, hb2⟩
          case measure => simp [intOf]; omega
        · have HQ := Lib.hid (whr_no (show wsP L lv le k = false by rw [HV.out]; exact decide_eq_false hm))
          go_wp2
          go_roundw
          case rel => exact ⟨k + 1, by omega, by go_num, by rw [HQ.out]; exact HO.out, HB.out⟩
          case measure => simp [intOf]; omega
      · obtain rfl : k = L.length := by omega
        go_wp2
        go_ret2
        exact ⟨_, rfl, by rw [HF.out]; exact hown, hb⟩

/-- one more section joined to those at hand -/
def jnStep (J : List (Int × Int)) (s : Int × Int) : List (Int × Int) :=
  match J[J.length - 1]? with
  | some x => if x.2 = s.2 ∧ x.1 + s.1 ≤ 10000 then J.set (J.length - 1) (x.1 + s.1, x.2) else J ++ [s]
  | none => J ++ [s]
def jnTo (L : List (Int × Int)) (k : Nat) : List (Int × Int) := (L.take k).foldl jnStep []
theorem jnTo_succ {L : List (Int × Int)} {k : Nat} {x : Int × Int} (h : L[k]? = some x) : jnTo L (k + 1) = jnStep (jnTo L k) x := by
  obtain ⟨hk, rfl⟩ := List.getElem?_eq_some_iff.1 h
  unfold jnTo
  rw [List.take_succ_eq_append_getElem hk, List.foldl_append]; rfl
theorem jnStep_nil (s : Int × Int) : jnStep [] s = [s] := rfl
theorem jnStep_yes {J : List (Int × Int)} {s x : Int × Int} (h : J[J.length - 1]? = some x) (h1 : x.2 = s.2) (h2 : x.1 + s.1 ≤ 10000) : jnStep J s = J.set (J.length - 1) (x.1 + s.1, x.2) := by
  rw [jnStep, h]; exact if_pos ⟨h1, h2⟩
theorem jnStep_no {J : List (Int × Int)} {s x : Int × Int} (h : J[J.length - 1]? = some x) (h1 : ¬ (x.2 = s.2 ∧ x.1 + s.1 ≤ 10000)) : jnStep J s = J ++ [s] := by
  rw [jnStep, h]; exact if_neg h1
theorem jn_good {L : List (Int × Int)} (h : dikeOk L = true) : ∀ k, k ≤ L.length → (jnTo L k).length ≤ k ∧ ∀ (i : Nat) (x : Int × Int), (jnTo L k)[i]? = some x → (1 ≤ x.1 ∧ x.1 ≤ 10000) ∧ -2000 ≤ x.2 ∧ x.2 ≤ 2000
  | 0, _ => ⟨by simp [jnTo], by simp [jnTo]⟩
  | k + 1, hk => by
    obtain ⟨h1, h2⟩ := jn_good h k (by omega)
    have hx := dikeOk_at h (get_at (show k < L.length by omega))
    rw [jnTo_succ (get_at (show k < L.length by omega))]
    generalize L[k] = s at *
    generalize jnTo L k = J at *
    have app : (J ++ [s]).length ≤ k + 1 ∧ ∀ (i : Nat) (x : Int × Int), (J ++ [s])[i]? = some x → (1 ≤ x.1 ∧ x.1 ≤ 10000) ∧ -2000 ≤ x.2 ∧ x.2 ≤ 2000 := by
      refine ⟨by simp; omega, fun i x hi => ?_⟩
      rcases List.mem_append.1 (List.mem_of_getElem? hi) with hm | hm
      · obtain ⟨j, hj⟩ := List.getElem?_of_mem hm
        exact h2 j x hj
      · simp only [List.mem_cons, List.not_mem_nil, or_false] at hm
        subst hm; exact hx
    cases hl : J[J.length - 1]? with
    | none => rw [show jnStep J s = J ++ [s] by rw [jnStep, hl]]; exact app
    | some y =>
      by_cases hc : y.2 = s.2 ∧ y.1 + s.1 ≤ 10000
      · rw [jnStep_yes hl hc.1 hc.2]
        have hy := h2 _ y hl
        refine ⟨by simp; omega, fun i x hi => ?_⟩
        rw [List.getElem?_set] at hi
        split at hi
        · split at hi
          · simp only [Option.some.injEq] at hi
            subst hi
            exact ⟨⟨by omega, hc.2⟩, hy.2⟩
          · cases hi
        · exact h2 i x hi
      · rw [jnStep_no hl hc]; exact app
def jnList (L : List (Int × Int)) : List (Int × Int) := if dikeOk L then jnTo L L.length else []
theorem jnList_len (L : List (Int × Int)) : (jnList L).length ≤ 1000000 := by
  unfold jnList
  split
  · rename_i h
    have := (jn_good h L.length (Nat.le_refl _)).1
    have := dikeOk_len h
    omega
  · simp

set_option maxHeartbeats 2000000 in
theorem JoinSections_c (A : Option Addr) (c : Nat) (L : List (Int × Int)) (w : World) (hR : Rd e2 2 w w.heap.size A L) (hn : L.length ≤ maxLen) :
    Calls Try.prog 23 #[.slice A L.length c] w fun e w' => ∃ v, e = .returned (.tuple #[v, .int .i64 (codeOf (dikeOk L))]) ∧ Own e2 2 w' w.heap.size 63 v (jnList L) ∧ Below w.heap.size w w' := by
  cases h : dikeOk L
  · have HF := Lib.hid (show jnList L = [] by simp [jnList, h])
    go_enter Try.func23, Try.ntmps23
    go_wp2_with fail
    refine (ValidDike_c _ _ _ _ hR hn).mono ?_
    rintro e w1 ⟨rfl, hb1⟩
    go_wp2
    go_ret2
    exact ⟨_, rfl, by rw [HF.out]; exact own_empty_at hb1.size, hb1.alloc hb1.size _⟩
  · have HF := Lib.hid (show jnList L = jnTo L L.length by simp [jnList, h])
    have H1 := Lib.hid h
    have hl := dikeOk_len h
    clear h
    go_enter Try.func23, Try.ntmps23
    go_wp2_with fail
    refine (ValidDike_c _ _ _ _ hR hn).mono ?_
    rintro e w1 ⟨rfl, hb1⟩
    rw [H1.out]
    go_wp2
    go_loopw [4, 15] (fun v i wr => ∃ k : Nat, k ≤ L.length ∧ i = .int .i64 k ∧ Own e2 2 wr w.heap.size 63 v (jnTo L k) ∧ Below w.heap.size w wr) (fun _ i _ => L.length - (intOf i).toNat)
    case atStart => exact ⟨0, by omega, rfl, own_empty_at hb1.size, hb1.alloc hb1.size _⟩
    case round =>
      clear hb1
      obtain ⟨k, hk, rfl, hown, hb⟩ := hrel
      have hsz := hb.size
      by_cases hlt : k < L.length
      · obtain ⟨b, off, rfl, hbb, hc⟩ := (hR.below hb).at2 hlt
        have ⟨k0, k1⟩ := hc k _ (get_at hlt)
        obtain ⟨⟨s1, s2⟩, s3, s4⟩ := dikeOk_at H1.out (get_at hlt)
        have HJ := Lib.hid (jnTo_succ (get_at hlt))
        obtain ⟨j1, j2⟩ := jn_good H1.out k hk
        have HG := Lib.hid j2
        have HO := Lib.hid hown
        have HB := Lib.hid hb
        have hbw : b < wr.heap.size := by omega
        clear hc hR hown hb j2
        generalize L[k] = s at *
        generalize hJ : jnTo L k = J at *
        by_cases h0 : J.length = 0
        · obtain rfl : J = [] := List.eq_nil_of_length_eq_zero h0
          obtain ⟨A1, c1, rfl⟩ := own_form HO.out
          clear h0 hJ
          have d0 : decide ((0 : Int) < 0) = false := by decide
          go_wp2
          go_quiet (fail)
          go_wp2_with (at_builtin; refine appSection _ _ rfl rfl _ [] s rfl ((HO.out.call (below_alloc1 _ _)).call (below_drewN_ _ _)) (bel_dN (HB.out.alloc hsz _) _) rfl (by simp) (by simp) ?_; intro v2 w2 hown2 hb2)
          go_roundw
          case rel => exact ⟨k + 1, by omega, by go_num, by rw [HJ.out]; exact hown2, hb2⟩
          case measure => simp [intOf]; omega
        · obtain ⟨A1, c1, rfl⟩ := own_form HO.out
          obtain ⟨g, rest, rfl, _, hbg, hlc, hcm, hlen, hBK⟩ := Own.blk HO.out (by omega)
          have hn1 : J.length - 1 < J.length := by omega
          have HXJ := Lib.hid (get_at hn1)
          have hgw := hBK.lt
          have j0 : wr.cell? ⟨g, (J.length - 1) * 2, none⟩ = some (.int .i64 J[J.length - 1].1) := hBK.cell_el len_x2 HXJ.out 0 _ rfl
          have j1' : wr.cell? ⟨g, (J.length - 1) * 2 + 1, none⟩ = some (.int .i64 J[J.length - 1].2) := hBK.cell_el len_x2 HXJ.out 1 _ rfl
          have hfz := hBK.frozen
          have HBK := Lib.hid hBK
          have HLEN := Lib.hid hlen
          obtain ⟨⟨x1, x2⟩, _, _⟩ := HG.out _ _ (get_at hn1)
          have HST := Lib.hid hJ
          have i1 : (J.length : Int) - 1 = ((J.length - 1 : Nat) : Int) := by omega
          have hpos : 0 < J.length := by omega
          clear hBK hlen hJ h0 HG
          generalize J[J.length - 1] = x at *
          by_cases c1' : x.2 = s.2
          · have e2' : (x.2 == s.2) = true := beq_iff_eq.2 c1'
            by_cases c2' : x.1 + s.1 ≤ 10000
            · have HS := Lib.hid (show jnTo L (k + 1) = J.set (J.length - 1) (x.1 + s.1, x.2) by rw [HJ.out]; exact jnStep_yes HXJ.out c1' c2')
              have d2 : decide (x.1 + s.1 ≤ 10000) = true := decide_eq_true c2'
              clear c1' HJ
              go_wp2
              go_quiet (fail)
              go_wp2
              go_region
              all_goals
                go_wp2
                go_roundw
                case rel =>
                  have hB2 := HB.out
                  refine ⟨k + 1, by omega, by go_num, ?_, (by repeat (first | (with_reducible exact Below.refl _ _) | (with_reducible assumption) | (with_reducible refine Below.drew ?_) | (with_reducible refine bel_dN ?_ _) | (with_reducible refine Below.alloc ?_ ?_ _) | (with_reducible refine Below.setCell ?_ ?_ _) | (refine bel_call ?_ (by with_reducible assumption) ?_) | omega | (focus (dsimp only; omega)) | (with_reducible refine sz_al ?_) | (with_reducible refine sz_sc ?_) | (with_reducible refine sz_dr ?_) | (with_reducible refine sz_dN ?_)))⟩
                  rw [HS.out]
                  refine Own.cast (Blk.own_rest (rest := rest) len_x2 ?_ hbg (c := c1) (by rw [List.length_set]; exact hlc) hcm (by have := HLEN.out; simpa [flatMap_len len_x2] using this)) (by simp)
                  rw [← flat_set2a HXJ.out]
                  exact Blk.set_ (Blk.drew (Blk.dN (Blk.alloc HBK.out _) _)) _ _
                case measure => simp [intOf]; omega
            · have HS := Lib.hid (show jnTo L (k + 1) = J ++ [s] by rw [HJ.out]; exact jnStep_no HXJ.out (fun h => c2' h.2))
              have d2 : decide (x.1 + s.1 ≤ 10000) = false := decide_eq_false c2'
              clear c1' HJ
              go_wp2
              go_quiet (fail)
              go_wp2_with (at_builtin; refine appSection _ _ rfl rfl _ J s rfl ((HO.out.call (below_alloc1 _ _)).call (below_drewN_ _ _)) (bel_dN (HB.out.alloc hsz _) _) rfl (by simp) (by omega) ?_; intro v2 w2 hown2 hb2)
              go_roundw
              case rel => exact ⟨k + 1, by omega, by go_num, by rw [HS.out]; exact hown2, hb2⟩
              case measure => simp [intOf]; omega
          · have HS := Lib.hid (show jnTo L (k + 1) = J ++ [s] by rw [HJ.out]; exact jnStep_no HXJ.out (fun h => c1' h.1))
            have e2' : (x.2 == s.2) = false := beq_eq_false_iff_ne.2 c1'
            clear c1' HJ
            go_wp2
            go_quiet (fail)
            go_wp2_with (at_builtin; refine appSection _ _ rfl rfl _ J s rfl ((HO.out.call (below_alloc1 _ _)).call (below_drewN_ _ _)) (bel_dN (HB.out.alloc hsz _) _) rfl (by simp) (by omega) ?_; intro v2 w2 hown2 hb2)
            go_roundw
            case rel => exact ⟨k + 1, by omega, by go_num, by rw [HS.out]; exact hown2, hb2⟩
            case measure => simp [intOf]; omega
      · obtain rfl : k = L.length := by omega
        go_wp2
        go_ret2
        exact ⟨_, rfl, by rw [HF.out]; exact hown, hb⟩

set_option maxHeartbeats 2000000 in
theorem lJoinSections_c (A : Option Addr) (c : Nat) (L : List (Int × Int)) (w : World) (hR : Rd e2 2 w w.heap.size A L) (hn : L.length ≤ maxLen) :
    Calls Try.prog 22 #[.slice A L.length c] w fun e w' => ∃ v, e = .returned (.tuple #[v, .int .i64 (codeOf (dikeOk L))]) ∧ Own e2 2 w' w.heap.size 63 v (jnList L) ∧ Below w.heap.size w w' := by
  cases h : dikeOk L
  · have HF := Lib.hid (show jnList L = [] by simp [jnList, h])
    go_enter Try.func22, Try.ntmps22
    go_wp2_with fail
    refine (l07Ok_c _ _ _ _ hR hn).mono ?_
    rintro e w1 ⟨rfl, hb1⟩
    go_wp2
    go_ret2
    exact ⟨_, rfl, by rw [HF.out]; exact Own.nil_, hb1⟩
  · have HF := Lib.hid (show jnList L = jnTo L L.length by simp [jnList, h])
    have H1 := Lib.hid h
    have hl := dikeOk_len h
    clear h
    go_enter Try.func22, Try.ntmps22
    go_wp2_with fail
    refine (l07Ok_c _ _ _ _ hR hn).mono ?_
    rintro e w1 ⟨rfl, hb1⟩
    rw [H1.out]
    go_wp2
    go_loopw [4, 5] (fun v i wr => ∃ k : Nat, k ≤ L.length ∧ i = .int .i64 k ∧ Own e2 2 wr w.heap.size 63 v (jnTo L k) ∧ Below w.heap.size w wr) (fun _ i _ => L.length - (intOf i).toNat)
    case atStart => exact ⟨0, by omega, rfl, own_empty_at hb1.size, hb1.alloc hb1.size _⟩
    case round =>
      clear hb1
      obtain ⟨k, hk, rfl, hown, hb⟩ := hrel
      have hsz := hb.size
      by_cases hlt : k < L.length
      · obtain ⟨b, off, rfl, hbb, hc⟩ := (hR.below hb).at2 hlt
        have ⟨k0, k1⟩ := hc k _ (get_at hlt)
        obtain ⟨⟨s1, s2⟩, s3, s4⟩ := dikeOk_at H1.out (get_at hlt)
        have HJ := Lib.hid (jnTo_succ (get_at hlt))
        obtain ⟨j1, j2⟩ := jn_good H1.out k hk
        have HG := Lib.hid j2
        have HO := Lib.hid hown
        have HB := Lib.hid hb
        have hbw : b < wr.heap.size := by omega
        clear hc hR hown hb j2
        generalize L[k] = s at *
        generalize hJ : jnTo L k = J at *
        by_cases h0 : J.length = 0
        · obtain rfl : J = [] := List.eq_nil_of_length_eq_zero h0
          obtain ⟨A1, c1, rfl⟩ := own_form HO.out
          clear h0 hJ
          have d0 : decide ((0 : Int) < 0) = false := by decide
          go_wp2
          go_quiet (fail)
          go_wp2_with (at_builtin; refine appSection _ _ rfl rfl _ [] s rfl (HO.out.call (below_drewN_ _ _)) (bel_dN HB.out _) rfl (by simp) (by simp) ?_; intro v2 w2 hown2 hb2)
          go_roundw
          case rel => exact ⟨k + 1, by omega, by go_num, by rw [HJ.out]; exact hown2, hb2⟩
          case measure => simp [intOf]; omega
        · obtain ⟨A1, c1, rfl⟩ := own_form HO.out
          obtain ⟨g, rest, rfl, _, hbg, hlc, hcm, hlen, hBK⟩ := Own.blk HO.out (by omega)
          have hn1 : J.length - 1 < J.length := by omega
          have HXJ := Lib.hid (get_at hn1)
          have hgw := hBK.lt
          have j0 : wr.cell? ⟨g, (J.length - 1) * 2, none⟩ = some (.int .i64 J[J.length - 1].1) := hBK.cell_el len_x2 HXJ.out 0 _ rfl
          have j1' : wr.cell? ⟨g, (J.length - 1) * 2 + 1, none⟩ = some (.int .i64 J[J.length - 1].2) := hBK.cell_el len_x2 HXJ.out 1 _ rfl
          have hfz := hBK.frozen
          have HBK := Lib.hid hBK
          have HLEN := Lib.hid hlen
          obtain ⟨⟨x1, x2⟩, _, _⟩ := HG.out _ _ (get_at hn1)
          have HST := Lib.hid hJ
          have i1 : (J.length : Int) - 1 = ((J.length - 1 : Nat) : Int) := by omega
          have hpos : 0 < J.length := by omega
          clear hBK hlen hJ h0 HG
          generalize J[J.length - 1] = x at *
          by_cases c1' : x.2 = s.2
          · have e2' : (x.2 == s.2) = true := beq_iff_eq.2 c1'
            by_cases c2' : x.1 + s.1 ≤ 10000
            · have HS := Lib.hid (show jnTo L (k + 1) = J.set (J.length - 1) (x.1 + s.1, x.2) by rw [HJ.out]; exact jnStep_yes HXJ.out c1' c2')
              have d2 : decide (x.1 + s.1 ≤ 10000) = true := decide_eq_true c2'
              have had : ∀ (W : World) (n : Nat) (o : Obj), (W.drewN n).alloc o = (W.alloc o).drewN n := fun _ _ _ => rfl
              have hsd : ∀ (W : World) (n : Nat) (a : Addr) (v : Value), (W.drewN n).setCell a v = (W.setCell a v).drewN n := fun _ _ _ _ => rfl
              clear c1' HJ
              go_wp2
              go_quiet (fail)
              go_wp2
              go_region
              all_goals
                go_wp2
                go_roundw
                case rel =>
                  have hB2 := HB.out
                  refine ⟨k + 1, by omega, by go_num, ?_, (by repeat (first | (with_reducible exact Below.refl _ _) | (with_reducible assumption) | (with_reducible refine Below.drew ?_) | (with_reducible refine bel_dN ?_ _) | (with_reducible refine Below.alloc ?_ ?_ _) | (with_reducible refine Below.setCell ?_ ?_ _) | (refine bel_call ?_ (by with_reducible assumption) ?_) | omega | (focus (dsimp only; omega)) | (with_reducible refine sz_al ?_) | (with_reducible refine sz_sc ?_) | (with_reducible refine sz_dr ?_) | (with_reducible refine sz_dN ?_)))⟩
                  rw [HS.out]
                  refine Own.cast (Blk.own_rest (rest := rest) len_x2 ?_ hbg (c := c1) (by rw [List.length_set]; exact hlc) hcm (by have := HLEN.out; simpa [flatMap_len len_x2] using this)) (by simp)
                  rw [← flat_set2 len_x2 HXJ.out (x.1 + s.1, x.2) rfl]
                  exact Blk.dN (Blk.alloc (Blk.set_ (Blk.set_ HBK.out _ _) _ _) _) _
                case measure => simp [intOf]; omega
            · have HS := Lib.hid (show jnTo L (k + 1) = J ++ [s] by rw [HJ.out]; exact jnStep_no HXJ.out (fun h => c2' h.2))
              have d2 : decide (x.1 + s.1 ≤ 10000) = false := decide_eq_false c2'
              clear c1' HJ
              go_wp2
              go_quiet (fail)
              go_wp2_with (at_builtin; refine appSection _ _ rfl rfl _ J s rfl (HO.out.call (below_drewN_ _ _)) (bel_dN HB.out _) rfl (by simp) (by omega) ?_; intro v2 w2 hown2 hb2)
              go_roundw
              case rel => exact ⟨k + 1, by omega, by go_num, by rw [HS.out]; exact hown2, hb2⟩
              case measure => simp [intOf]; omega
          · have HS := Lib.hid (show jnTo L (k + 1) = J ++ [s] by rw [HJ.out]; exact jnStep_no HXJ.out (fun h => c1' h.1))
            have e2' : (x.2 == s.2) = false := beq_eq_false_iff_ne.2 c1'
            clear c1' HJ
            go_wp2
            go_quiet (fail)
            go_wp2_with (at_builtin; refine appSection _ _ rfl rfl _ J s rfl (HO.out.call (below_drewN_ _ _)) (bel_dN HB.out _) rfl (by simp) (by omega) ?_; intro v2 w2 hown2 hb2)
            go_roundw
            case rel => exact ⟨k + 1, by omega, by go_num, by rw [HS.out]; exact hown2, hb2⟩
            case measure => simp [intOf]; omega
      · obtain rfl : k = L.length := by omega
        go_wp2
        go_ret2
        exact ⟨_, rfl, by rw [HF.out]; exact hown, hb⟩

end Go.Proofs.Ytmebjbfgbejigaa
