/- The contracts of the stretches below a level: minute by minute, and part by part. -/
import Derived.Test.YtdmiajgcofapkaaTide4
import Derived.Test.YtdmiajgcofapkaaMark
import Derived.Test.YtdmiajgcofapkaaApp
namespace Go.Proofs.Ytdmiajgcofapkaa
open Go.RowKit

theorem flat_set2b {L : List (Int × Int)} {rest : List Value} {k : Nat} {x : Int × Int} (h : L[k]? = some x) (b : Int) : (L.flatMap e2 ++ rest).set (k * 2 + 1) (.int .i64 b) = (L.set k (x.1, b)).flatMap e2 ++ rest := by
  rw [← flat_set2 len_x2 h (x.1, b) rfl]
  congr 1
  exact (set_same (flat_at len_x2 h 0 _ rfl)).symm
theorem setTo_at {S : List (Int × Int)} {x : Int × Int} (h : S[S.length - 1]? = some x) (t : Int) : setTo S t = S.set (S.length - 1) (x.1, t) := by rw [setTo, getD_at h]

set_option maxHeartbeats 1000000 in
theorem belowAt_c (A : Option Addr) (c : Nat) (L : List (Int × Int)) (lv m : Int) (w : World) (hR : Rd e2 2 w w.heap.size A L) (hok : tidesOk L = true) (h0 : mnt L 0 ≤ m) (h1 : m ≤ mnt L (L.length - 1)) (g0 : -2000 ≤ lv) (g1 : lv ≤ 2000) :
    Calls Try.prog 94 #[.slice A L.length c, .int .i64 lv, .int .i64 m] w fun e w' => e = .returned (.bool (below L lv m)) ∧ Below w.heap.size w w' := by
  obtain ⟨n1, n2⟩ : -600000000 ≤ tNum L m ∧ tNum L m ≤ 600000000 := by have := tNum_bd hok h0 h1; unfold tNum; omega
  obtain ⟨d1, d2⟩ := tDen_bd hok m
  obtain ⟨p1, p2⟩ := prod_bd (a := lv) (b := tDen L m) (A := 2000) (B := 100000) (by omega) (by omega) (by omega) (by omega) (by omega)
  have HV := Lib.hid (show below L lv m = decide (tNum L m < lv * tDen L m) from rfl)
  go_enter Try.func94, Try.ntmps94
  go_wp2_with fail
  refine (tideAt_c _ _ _ _ _ hR hok h0 h1).mono ?_
  rintro e w1 ⟨rfl, hb1⟩
  have hsz := hb1.size
  clear hok h0 h1
  generalize tNum L m = N at *
  generalize tDen L m = D at *
  go_wp2
  go_ret
  exact ⟨ret_bool HV.out.symm, (by repeat (first | (with_reducible exact Below.refl _ _) | (with_reducible assumption) | (with_reducible refine Below.drew ?_) | (with_reducible refine bel_dN ?_ _) | (with_reducible refine Below.alloc ?_ ?_ _) | (with_reducible refine Below.setCell ?_ ?_ _) | (refine bel_call ?_ (by with_reducible assumption) ?_) | omega | (focus (dsimp only; omega)) | (with_reducible refine sz_al ?_) | (with_reducible refine sz_sc ?_) | (with_reducible refine sz_dr ?_) | (with_reducible refine sz_dN ?_)))⟩

set_option maxHeartbeats 4000000 in
set_option maxRecDepth 100000 in
theorem spellsBelow_c (A : Option Addr) (c : Nat) (L : List (Int × Int)) (lv : Int) (w : World) (hR : Rd e2 2 w w.heap.size A L) (hok : tidesOk L = true) (g0 : -2000 ≤ lv) (g1 : lv ≤ 2000) :
    Calls Try.prog 93 #[.slice A L.length c, .int .i64 lv] w fun e w' => ∃ v, e = .returned v ∧ Own e2 2 w' w.heap.size 101 v (spells L lv) ∧ Below w.heap.size w w' := by
  have hl := tidesOk_len hok
  have hz0 : 0 < L.length := by omega
  have hz1 : L.length - 1 < L.length := by omega
  have ha := mnt_bd hok hz0
  have hb' := mnt_bd hok hz1
  have hab := mn_lt hok (show 0 ≤ L.length - 1 by omega) hz1
  obtain ⟨b, off, rfl, hbb, hc⟩ := hR.at2 hz0
  have k0 : w.cell? ⟨b, off, none⟩ = some (.int .i64 (mnt L 0)) := by have := (hc 0 _ (get_at hz0)).1; rw [mnt, getD_at (get_at hz0)]; simpa using this
  have k1 : w.cell? ⟨b, off + (L.length - 1) * 2, none⟩ = some (.int .i64 (mnt L (L.length - 1))) := by have := (hc (L.length - 1) _ (get_at hz1)).1; rw [mnt, getD_at (get_at hz1)]; exact this
  have HK1 := Lib.hid k1
  have i0 : (L.length : Int) - 1 = ((L.length - 1 : Nat) : Int) := by omega
  have i1 : ((L.length - 1 : Nat) : Int) < (L.length : Int) := by omega
  have i3 : (0 : Int) < (L.length : Int) := by omega
  have HOK := Lib.hid hok
  have HSP := Lib.hid (show spells L lv = runs (below L lv) (mnt L 0) ((mnt L (L.length - 1) - mnt L 0).toNat + 1) from rfl)
  obtain ⟨ha1, ha2⟩ := ha
  obtain ⟨hb1', hb2'⟩ := hb'
  have hab2 : mnt L 0 ≤ mnt L (L.length - 1) := by omega
  have HA := Lib.hid (show mnt L 0 = mnt L 0 from rfl)
  have HRW := Lib.hid hR
  clear hc hok k1 hab hR hz0 hz1
  generalize hA0 : mnt L 0 = a0 at *
  generalize hZ0 : mnt L (L.length - 1) = z0 at *
  have HA0 := Lib.hid hA0
  have HZ0 := Lib.hid hZ0
  clear hA0 hZ0 HA
  go_enter Try.func93, Try.ntmps93
  go_wp2
  go_loopw [5, 6, 7] (fun v bf mi wr => ∃ n : Nat, a0 + n ≤ z0 + 1 ∧ mi = .int .i64 (a0 + n) ∧ bf = .bool (decide (n ≠ 0) && below L lv (a0 + n - 1)) ∧ Own e2 2 wr w.heap.size 101 v (runs (below L lv) a0 n) ∧ Below w.heap.size w wr) (fun _ _ mi _ => (z0 + 1 - intOf mi).toNat)
  case atStart => exact ⟨0, by omega, by simp, by simp, own_empty w 101, below_alloc1 _ _⟩
  case round =>
    obtain ⟨n, hn, rfl, rfl, hown, hb⟩ := hrel
    have hsz := hb.size
    have k1 : wr.cell? ⟨b, off + (L.length - 1) * 2, none⟩ = some (.int .i64 z0) := (hb.cell hbb).trans HK1.out
    have HO := Lib.hid hown
    have HB := Lib.hid hb
    have hlen := runs_len (p := below L lv) (a := a0) n
    have HBD := Lib.hid (runs_bd (p := below L lv) (a := a0) n)
    clear hown hb
    by_cases hlt : a0 + n ≤ z0
    · generalize hbf : (decide (n ≠ 0) && below L lv (a0 + n - 1)) = bf at *
      have HBF := Lib.hid hbf
      clear hbf
      have HW := Lib.hid ((HRW.out.below HB.out).more hsz)
      go_wp2_with fail
      refine (belowAt_c _ _ _ _ _ _ HW.out HOK.out (by rw [HA0.out]; omega) (by rw [HZ0.out]; exact hlt) g0 g1).mono ?_
      rintro e w1 ⟨rfl, hb1⟩
      have HO1 := Lib.hid (HO.out.call hb1)
      have HB1 := Lib.hid (bel_call HB.out hb1 hsz)
      have hsz1 := HB1.out.size
      clear k1 hb1 HO HB
      have HN := Lib.hid (show (decide (n + 1 ≠ 0) && below L lv (a0 + ((n + 1 : Nat) : Int) - 1)) = below L lv (a0 + n) by
        rw [show a0 + ((n + 1 : Nat) : Int) - 1 = a0 + n by omega, decide_eq_true (by omega), Bool.true_and])
      cases hp : below L lv (a0 + n)
      · have HQ := Lib.hid (runs_no hp)
        have HP := Lib.hid hp
        clear hp
        go_wp2
        go_roundw
        case rel => exact ⟨n + 1, by omega, by go_num, by rw [HN.out, HP.out], by rw [HQ.out]; exact HO1.out, HB1.out⟩
        case measure => simp [intOf]; omega
      · cases bf
        · have HQ := Lib.hid (runs_new hp (fun h => by have := HBF.out; simp [h.1, h.2] at this))
          have HP := Lib.hid hp
          have hln : (runs (below L lv) a0 n).length + 1 ≤ 1000000000 := by omega
          clear hp
          go_wp2_with (at_builtin; refine appSpell _ _ rfl rfl _ (runs (below L lv) a0 n) (a0 + n, a0 + n) rfl HO1.out HB1.out rfl (by simp) hln ?_; intro v2 w2 hown2 hb2)
          go_roundw
          case rel => exact ⟨n + 1, by omega, by go_num, by rw [HN.out, HP.out], by rw [HQ.out]; exact hown2, hb2⟩
          case measure => simp [intOf]; omega
        · have hh : n ≠ 0 ∧ below L lv (a0 + n - 1) = true := by have := HBF.out; simpa using this
          have HQ := Lib.hid (runs_on hp hh)
          obtain ⟨q, rfl⟩ : ∃ q, n = q + 1 := ⟨n - 1, by omega⟩
          have hh2 := hh.2
          rw [show a0 + ((q + 1 : Nat) : Int) - 1 = a0 + q by omega] at hh2
          obtain ⟨T, y, hT⟩ := runs_last q hh2
          have hpos : 0 < (runs (below L lv) a0 (q + 1)).length := by rw [hT]; simp
          have HP := Lib.hid hp
          clear hp hh hh2 hT
          generalize runs (below L lv) a0 (q + 1) = S at *
          obtain ⟨A1, c1, hv⟩ := own_form HO1.out
          subst hv
          obtain ⟨g, rest, hA1, _, hbg, hlc, hcm, hlen1, hBK⟩ := Own.blk HO1.out hpos
          subst hA1
          have hn1 : S.length - 1 < S.length := by omega
          have HXJ := Lib.hid (get_at hn1)
          have hgw := hBK.lt
          have j1' : w1.cell? ⟨g, (S.length - 1) * 2 + 1, none⟩ = some (.int .i64 S[S.length - 1].2) := hBK.cell_el len_x2 HXJ.out 1 _ rfl
          have hfz := hBK.frozen
          have HBK := Lib.hid hBK
          have HLEN := Lib.hid hlen1
          have HS := Lib.hid (setTo_at HXJ.out (a0 + ((q + 1 : Nat) : Int)))
          have e1 : (S.length : Int) - 1 = ((S.length - 1 : Nat) : Int) := by omega
          clear hBK hlen1
          generalize S[S.length - 1] = x at *
          go_wp2
          go_roundw
          case rel =>
            have hB2 := HB1.out
            refine ⟨q + 1 + 1, by omega, by go_num, by rw [HN.out, HP.out], ?_, (by repeat (first | (with_reducible exact Below.refl _ _) | (with_reducible assumption) | (with_reducible refine Below.drew ?_) | (with_reducible refine bel_dN ?_ _) | (with_reducible refine Below.alloc ?_ ?_ _) | (with_reducible refine Below.setCell ?_ ?_ _) | (refine bel_call ?_ (by with_reducible assumption) ?_) | omega | (focus (dsimp only; omega)) | (with_reducible refine sz_al ?_) | (with_reducible refine sz_sc ?_) | (with_reducible refine sz_dr ?_) | (with_reducible refine sz_dN ?_)))⟩
            rw [HQ.out, HS.out]
            refine Own.cast (Blk.own_rest (rest := rest) len_x2 ?_ hbg (c := c1) (by rw [List.length_set]; exact hlc) hcm (by have := HLEN.out; simpa [flatMap_len len_x2] using this)) (by simp)
            rw [← flat_set2b HXJ.out]
            exact Blk.set_ HBK.out _ _
          case measure => simp [intOf]; omega
    · have HQ := Lib.hid (show spells L lv = runs (below L lv) a0 n by rw [HSP.out, show (z0 - a0).toNat + 1 = n by omega])
      go_wp2
      go_ret
      exact ⟨_, rfl, by rw [HQ.out]; exact HO.out, HB.out⟩

set_option maxHeartbeats 1000000 in
theorem l08Part_c (a b : Int × Int) (lv : Int) (w : World) (h1 : 0 ≤ a.1) (h2 : a.1 < b.1) (h3 : b.1 ≤ 100000) (h4 : -2000 ≤ a.2 ∧ a.2 ≤ 2000) (h5 : -2000 ≤ b.2 ∧ b.2 ≤ 2000) (hne : a.2 ≠ b.2) (g0 : -2000 ≤ lv) (g1 : lv ≤ 2000) :
    Calls Try.prog 109 #[.agg #[.int .i64 a.1, .int .i64 a.2], .agg #[.int .i64 b.1, .int .i64 b.2], .int .i64 lv] w fun e w' => e = .returned (.tuple #[.int .i64 (part a b lv).1, .int .i64 (part a b lv).2]) ∧ Below w.heap.size w w' := by
  obtain ⟨h6, h7⟩ := h4
  obtain ⟨h8, h9⟩ := h5
  by_cases hr : a.2 < b.2
  · by_cases hl : lv ≤ a.2
    · have HP := Lib.hid (show part a b lv = (1, 0) by rw [part, if_pos hr, if_pos hl])
      go_enter Try.func109, Try.ntmps109
      go_wp2
      go_ret2
      exact ⟨by rw [HP.out]; rfl, (by repeat (first | (with_reducible exact Below.refl _ _) | (with_reducible assumption) | (with_reducible refine Below.drew ?_) | (with_reducible refine bel_dN ?_ _) | (with_reducible refine Below.alloc ?_ ?_ _) | (with_reducible refine Below.setCell ?_ ?_ _) | (refine bel_call ?_ (by with_reducible assumption) ?_) | omega | (focus (dsimp only; omega)) | (with_reducible refine sz_al ?_) | (with_reducible refine sz_sc ?_) | (with_reducible refine sz_dr ?_) | (with_reducible refine sz_dN ?_)))⟩
    · have HP := Lib.hid (show part a b lv = (a.1, min b.1 (a.1 + ((lv - a.2) * (b.1 - a.1) - 1) / (b.2 - a.2))) by rw [part, if_pos hr, if_neg hl])
      have p0 : 0 < (lv - a.2) * (b.1 - a.1) := Int.mul_pos (by omega) (by omega)
      obtain ⟨_, p1⟩ := prod_bd (a := lv - a.2) (b := b.1 - a.1) (A := 4000) (B := 100000) (by omega) (by omega) (by omega) (by omega) (by omega)
      have q1 : 0 ≤ ((lv - a.2) * (b.1 - a.1) - 1) / (b.2 - a.2) := Int.ediv_nonneg (by omega) (by omega)
      have q2 : ((lv - a.2) * (b.1 - a.1) - 1) / (b.2 - a.2) ≤ (lv - a.2) * (b.1 - a.1) - 1 := Int.ediv_le_self _ (by omega)
      go_enter Try.func109, Try.ntmps109
      go_wp2_with fail
      refine (lfloor_c _ _ _ (by omega) (by omega) (by omega)).mono ?_
      rintro e w' ⟨rfl, rfl⟩
      generalize ((lv - a.2) * (b.1 - a.1) - 1) / (b.2 - a.2) = q at *
      generalize (lv - a.2) * (b.1 - a.1) = z at *
      have s1 : IntKind.i64.wrap (a.1 + q) = a.1 + q := by rw [IntWalk.i64_in _ (by omega)]
      go_wp2
      go_quiet ((go_at_call 111; exact Calls.quiet_of_same (lminq_c _ _ _)))
      go_wp2
      go_ret2
      exact ⟨by rw [HP.out]; rfl, (by repeat (first | (with_reducible exact Below.refl _ _) | (with_reducible assumption) | (with_reducible refine Below.drew ?_) | (with_reducible refine bel_dN ?_ _) | (with_reducible refine Below.alloc ?_ ?_ _) | (with_reducible refine Below.setCell ?_ ?_ _) | (refine bel_call ?_ (by with_reducible assumption) ?_) | omega | (focus (dsimp only; omega)) | (with_reducible refine sz_al ?_) | (with_reducible refine sz_sc ?_) | (with_reducible refine sz_dr ?_) | (with_reducible refine sz_dN ?_)))⟩
  · by_cases hl : lv ≤ b.2
    · have HP := Lib.hid (show part a b lv = (1, 0) by rw [part, if_neg hr, if_pos hl])
      go_enter Try.func109, Try.ntmps109
      go_wp2
      go_ret2
      exact ⟨by rw [HP.out]; rfl, (by repeat (first | (with_reducible exact Below.refl _ _) | (with_reducible assumption) | (with_reducible refine Below.drew ?_) | (with_reducible refine bel_dN ?_ _) | (with_reducible refine Below.alloc ?_ ?_ _) | (with_reducible refine Below.setCell ?_ ?_ _) | (refine bel_call ?_ (by with_reducible assumption) ?_) | omega | (focus (dsimp only; omega)) | (with_reducible refine sz_al ?_) | (with_reducible refine sz_sc ?_) | (with_reducible refine sz_dr ?_) | (with_reducible refine sz_dN ?_)))⟩
    · have HP := Lib.hid (show part a b lv = (max a.1 (b.1 - ((lv - b.2) * (b.1 - a.1) - 1) / (a.2 - b.2)), b.1) by rw [part, if_neg hr, if_neg hl])
      have p0 : 0 < (lv - b.2) * (b.1 - a.1) := Int.mul_pos (by omega) (by omega)
      obtain ⟨_, p1⟩ := prod_bd (a := lv - b.2) (b := b.1 - a.1) (A := 4000) (B := 100000) (by omega) (by omega) (by omega) (by omega) (by omega)
      have q1 : 0 ≤ ((lv - b.2) * (b.1 - a.1) - 1) / (a.2 - b.2) := Int.ediv_nonneg (by omega) (by omega)
      have q2 : ((lv - b.2) * (b.1 - a.1) - 1) / (a.2 - b.2) ≤ (lv - b.2) * (b.1 - a.1) - 1 := Int.ediv_le_self _ (by omega)
      go_enter Try.func109, Try.ntmps109
      go_wp2_with fail
      refine (lfloor_c _ _ _ (by omega) (by omega) (by omega)).mono ?_
      rintro e w' ⟨rfl, rfl⟩
      generalize ((lv - b.2) * (b.1 - a.1) - 1) / (a.2 - b.2) = q at *
      generalize (lv - b.2) * (b.1 - a.1) = z at *
      have s1 : IntKind.i64.wrap (b.1 - q) = b.1 - q := by rw [IntWalk.i64_in _ (by omega)]
      go_wp2
      go_quiet ((go_at_call 59; exact Calls.quiet_of_same (lmaxq_c _ _ _)))
      go_wp2
      go_ret2
      exact ⟨by rw [HP.out]; rfl, (by repeat (first | (with_reducible exact Below.refl _ _) | (with_reducible assumption) | (with_reducible refine Below.drew ?_) | (with_reducible refine bel_dN ?_ _) | (with_reducible refine Below.alloc ?_ ?_ _) | (with_reducible refine Below.setCell ?_ ?_ _) | (refine bel_call ?_ (by with_reducible assumption) ?_) | omega | (focus (dsimp only; omega)) | (with_reducible refine sz_al ?_) | (with_reducible refine sz_sc ?_) | (with_reducible refine sz_dr ?_) | (with_reducible refine sz_dN ?_)))⟩

theorem spStep_len (S : List (Int × Int)) (f t : Int) : (spStep S f t).length ≤ S.length + 1 := by
  unfold spStep
  split
  · omega
  · split
    · rw [setTo_len]; omega
    · simp
theorem spTo_len (L : List (Int × Int)) (lv : Int) : ∀ k, (spTo L lv k).length ≤ k
  | 0 => by simp [spTo]
  | k + 1 => by
    have := spTo_len L lv k
    have := spStep_len (spTo L lv k) (part (L.getD k (0, 0)) (L.getD (k + 1) (0, 0)) lv).1 (part (L.getD k (0, 0)) (L.getD (k + 1) (0, 0)) lv).2
    rw [spTo]; omega
theorem spTo_bd {L : List (Int × Int)} (h : tidesOk L = true) (lv : Int) {k : Nat} (hk : k < L.length) {i : Nat} {s : Int × Int} (hs : (spTo L lv k)[i]? = some s) : 0 ≤ s.1 ∧ s.1 ≤ s.2 ∧ s.2 ≤ 100000 := by
  cases k with
  | zero => simp [spTo] at hs
  | succ q =>
    rw [spTo_runs h lv q hk] at hs
    have := runs_bd _ s (List.mem_of_getElem? hs)
    have := mnt_bd h hk
    have := mnt_bd h (show 0 < L.length by omega)
    have := mn_lt h (show 0 ≤ q + 1 by omega) hk
    omega
theorem spStep_no {S : List (Int × Int)} {f t : Int} (h : t < f) : spStep S f t = S := by rw [spStep, if_pos h]
theorem spStep_on {S : List (Int × Int)} {f t : Int} {x : Int × Int} (h : ¬ t < f) (hx : S[S.length - 1]? = some x) (h2 : f ≤ x.2 + 1) : spStep S f t = S.set (S.length - 1) (x.1, t) := by
  have hl := (List.getElem?_eq_some_iff.1 hx).1
  rw [spStep, if_neg h, getD_at hx, if_pos ⟨by omega, h2⟩, setTo_at hx]
theorem spStep_new {S : List (Int × Int)} {f t : Int} {x : Int × Int} (h : ¬ t < f) (hx : S[S.length - 1]? = some x) (h2 : ¬ f ≤ x.2 + 1) : spStep S f t = S ++ [(f, t)] := by
  rw [spStep, if_neg h, getD_at hx, if_neg (fun h3 => h2 h3.2)]
theorem spStep_nil {f t : Int} (h : ¬ t < f) : spStep [] f t = [(f, t)] := by rw [spStep, if_neg h, if_neg (by simp)]; rfl
set_option maxHeartbeats 4000000 in
set_option maxRecDepth 100000 in
theorem l08Spells_c (A : Option Addr) (c : Nat) (L : List (Int × Int)) (lv : Int) (w : World) (hR : Rd e2 2 w w.heap.size A L) (hok : tidesOk L = true) (g0 : -2000 ≤ lv) (g1 : lv ≤ 2000) :
    Calls Try.prog 91 #[.slice A L.length c, .int .i64 lv] w fun e w' => ∃ v, e = .returned v ∧ Own e2 2 w' w.heap.size 101 v (spells L lv) ∧ Below w.heap.size w w' := by
  have hl := tidesOk_len hok
  have HOK := Lib.hid hok
  have HALL := Lib.hid (spTo_all hok lv)
  clear hok
  go_enter Try.func91, Try.ntmps91
  go_wp2
  go_loopw [5, 6] (fun v i wr => ∃ k : Nat, k + 1 ≤ L.length ∧ i = .int .i64 k ∧ Own e2 2 wr w.heap.size 101 v (spTo L lv k) ∧ Below w.heap.size w wr) (fun _ i _ => L.length - (intOf i).toNat)
  case atStart => exact ⟨0, by omega, rfl, own_empty w 101, below_alloc1 _ _⟩
  case round =>
    obtain ⟨k, hk, rfl, hown, hb⟩ := hrel
    have hsz := hb.size
    have hlen := spTo_len L lv k
    by_cases hlt : k + 1 < L.length
    · obtain ⟨b, off, rfl, hbb, hc⟩ := (hR.below hb).at2 hlt
      have hk0 : k < L.length := by omega
      have ⟨x0, x1⟩ := hc k _ (get_at hk0)
      have ⟨y0, y1⟩ := hc (k + 1) _ (get_at hlt)
      have HS := Lib.hid (show spTo L lv (k + 1) = spStep (spTo L lv k) (part L[k] L[k + 1] lv).1 (part L[k] L[k + 1] lv).2 by rw [spTo, getD_at (get_at hk0), getD_at (get_at hlt)])
      have hst : L[k].1 < L[k + 1].1 := by have := mn_step HOK.out hlt; rwa [mnt, mnt, getD_at (get_at hk0), getD_at (get_at hlt)] at this
      have hne := lvl_ne HOK.out hlt
      rw [lvl, lvl, getD_at (get_at hk0), getD_at (get_at hlt)] at hne
      obtain ⟨⟨t1, t2⟩, t3⟩ := tidesOk_at HOK.out (get_at hk0)
      obtain ⟨⟨t4, t5⟩, t6⟩ := tidesOk_at HOK.out (get_at hlt)
      have HBD : Hid (∀ (i : Nat) (s : Int × Int), (spTo L lv k)[i]? = some s → 0 ≤ s.1 ∧ s.1 ≤ s.2 ∧ s.2 ≤ 100000) := fun i s hs => spTo_bd HOK.out lv hk0 hs
      have hpin := part_in (a := L[k]) (b := L[k + 1]) (lv := lv)
      have HO := Lib.hid hown
      have HB := Lib.hid hb
      have HT3 := Lib.hid t3
      have HT6 := Lib.hid t6
      have HNE := Lib.hid hne
      have HPI := Lib.hid hpin
      have j1 : (0 : Int) ≤ (k : Int) := by omega
      have j2 : (k : Int) < (L.length : Int) := by omega
      have j3 : (k : Int) + 1 < (L.length : Int) := by omega
      have j4 : (0 : Int) ≤ (k : Int) + 1 := by omega
      have j5 : IntKind.i64.wrap ((k : Int) + 1) = (k : Int) + 1 := by rw [IntWalk.i64_in _ (by omega)]
      have hbw : b < wr.heap.size := by omega
      clear hc hR hown hb hne hpin t3 t6
      generalize L[k] = x at *
      generalize L[k + 1] = y at *
      clear hk0
      generalize spTo L lv k = S at *
      go_wp2
      go_region_held3 (fun w' => (w'.cell? ⟨b, off + k * 2, none⟩ = some (.int .i64 x.1) ∧ w'.cell? ⟨b, off + k * 2 + 1, none⟩ = some (.int .i64 x.2)) ∧ w'.cell? ⟨b, off + (k + 1) * 2, none⟩ = some (.int .i64 y.1) ∧ w'.cell? ⟨b, off + (k + 1) * 2 + 1, none⟩ = some (.int .i64 y.2)) (first | exact ⟨⟨x0, x1⟩, y0, y1⟩ | exact ⟨⟨kc hb1 x0, kc hb1 x1⟩, kc hb1 y0, kc hb1 y1⟩) ((go_at_call 109; refine (l08Part_c x y lv _ t1 hst t5 HT3.out HT6.out HNE.out g0 g1).mono ?_; rintro e w1 ⟨rfl, hb1⟩))
      have hb1' := (below_drew_ wr).trans hb1
      have HO1 := Lib.hid (HO.out.call hb1')
      have HB1 := Lib.hid (bel_call HB.out hb1' hsz)
      have hsz1 := HB1.out.size
      clear hb1 hb1' x0 x1 y0 y1
      have HF := HPI.out
      generalize part x y lv = ft at *
      obtain ⟨f, t⟩ := ft
      simp only at *
      by_cases htf : t < f
      · have HQ := Lib.hid (show spTo L lv (k + 1) = S by rw [HS.out]; exact spStep_no htf)
        clear HF
        go_wp2
        go_roundw
        case rel => exact ⟨k + 1, by omega, by go_num, by rw [HQ.out]; exact HO1.out, HB1.out⟩
        case measure => simp [intOf]; omega
      obtain ⟨r1, r2⟩ := HF (by omega)
      clear HF
      by_cases h0 : S.length = 0
      · obtain rfl : S = [] := List.eq_nil_of_length_eq_zero h0
        obtain ⟨A1, c1, hv⟩ := own_form HO1.out
        subst hv
        have HQ := Lib.hid (show spTo L lv (k + 1) = [] ++ [(f, t)] by rw [HS.out]; exact spStep_nil htf)
        clear h0
        go_wp2_with (at_builtin; refine appSpell _ _ rfl rfl _ [] (f, t) rfl HO1.out HB1.out rfl (by simp) (by simp) ?_; intro v2 w2 hown2 hb2)
        go_roundw
        case rel => exact ⟨k + 1, by omega, by go_num, by rw [HQ.out]; exact hown2, hb2⟩
        case measure => simp [intOf]; omega
      obtain ⟨A1, c1, hv⟩ := own_form HO1.out
      subst hv
      obtain ⟨g, rest, hA1, _, hbg, hlc, hcm, hlen1, hBK⟩ := Own.blk HO1.out (by omega)
      subst hA1
      have hn1 : S.length - 1 < S.length := by omega
      have hpos : 0 < S.length := by omega
      have HXJ := Lib.hid (get_at hn1)
      obtain ⟨u1, u2, u3⟩ := HBD.out _ _ HXJ.out
      have hgw := hBK.lt
      have q0 : w1.cell? ⟨g, (S.length - 1) * 2, none⟩ = some (.int .i64 S[S.length - 1].1) := hBK.cell_el len_x2 HXJ.out 0 _ rfl
      have q1 : w1.cell? ⟨g, (S.length - 1) * 2 + 1, none⟩ = some (.int .i64 S[S.length - 1].2) := hBK.cell_el len_x2 HXJ.out 1 _ rfl
      have hfz := hBK.frozen
      have HBK := Lib.hid hBK
      have HLEN := Lib.hid hlen1
      have e1 : (S.length : Int) - 1 = ((S.length - 1 : Nat) : Int) := by omega
      clear hBK hlen1 h0 HBD
      generalize S[S.length - 1] = z at *
      by_cases hon : f ≤ z.2 + 1
      · have HQ := Lib.hid (show spTo L lv (k + 1) = S.set (S.length - 1) (z.1, t) by rw [HS.out]; exact spStep_on htf HXJ.out hon)
        go_wp2
        go_roundw
        case rel =>
          have hB2 := HB1.out
          refine ⟨k + 1, by omega, by go_num, ?_, (by repeat (first | (with_reducible exact Below.refl _ _) | (with_reducible assumption) | (with_reducible refine Below.drew ?_) | (with_reducible refine bel_dN ?_ _) | (with_reducible refine Below.alloc ?_ ?_ _) | (with_reducible refine Below.setCell ?_ ?_ _) | (refine bel_call ?_ (by with_reducible assumption) ?_) | omega | (focus (dsimp only; omega)) | (with_reducible refine sz_al ?_) | (with_reducible refine sz_sc ?_) | (with_reducible refine sz_dr ?_) | (with_reducible refine sz_dN ?_)))⟩
          rw [HQ.out]
          refine Own.cast (Blk.own_rest (rest := rest) len_x2 ?_ hbg (c := c1) (by rw [List.length_set]; exact hlc) hcm (by have := HLEN.out; simpa [flatMap_len len_x2] using this)) (by simp)
          rw [← flat_set2 len_x2 HXJ.out (z.1, t) rfl]
          exact Blk.alloc (Blk.set_ (Blk.set_ HBK.out _ _) _ _) _
        case measure => simp [intOf]; omega
      · have HQ := Lib.hid (show spTo L lv (k + 1) = S ++ [(f, t)] by rw [HS.out]; exact spStep_new htf HXJ.out hon)
        go_wp2_with (at_builtin; refine appSpell _ _ rfl rfl _ S (f, t) rfl HO1.out HB1.out rfl (by simp) (by omega) ?_; intro v2 w2 hown2 hb2)
        go_roundw
        case rel => exact ⟨k + 1, by omega, by go_num, by rw [HQ.out]; exact hown2, hb2⟩
        case measure => simp [intOf]; omega
    · obtain rfl : k = L.length - 1 := by omega
      go_wp2
      go_ret
      exact ⟨_, rfl, by rw [← HALL.out]; exact hown, hb⟩

end Go.Proofs.Ytdmiajgcofapkaa
