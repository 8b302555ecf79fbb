/- The library's merging in place, walked: the merge by halves. -/
import Derived.Test.YtcdpgdpabmlpdaaSymW2
namespace Go.Proofs.Ytcdpgdpabmlpdaa
open Go.RowKit Go.Sort Go.Lib Go.Shelf

abbrev symArgs (g : Nat) (lb : Array Value) (sf : Nat) (sb : Array Value) (a m b : Nat) : Array Value := #[.agg #[.func (.func g) #[] lb, .func (.func sf) #[] sb], .int .i64 (a : Int), .int .i64 (m : Int), .int .i64 (b : Int)]
set_option maxHeartbeats 8000000 in
set_option maxRecDepth 100000 in
theorem symGt_c {α : Type} [Inhabited α] {enc : α → Value} {lt : α → α → Bool} {pos : α → Int} (hO : SWO lt) {g : Nat} {lb : Array Value} {sf : Nat} {sb : Array Value} {blk off n : Nat} {W : World} {d : Array α} (E0 : SEnv enc lt g lb sf sb blk off n W d) (a m b : Nat) (ham : a + 1 < m) (hmb : m + 1 < b) (hb : b ≤ n) (hmid : (a + b) / 2 < m)
    (h1 : Srt lt pos d a m) (h2 : Srt lt pos d m b) (hx : Crs pos d a m b) (ih : ∀ (W' : World) (d' : Array α), SEnv enc lt g lb sf sb blk off n W' d' → ∀ a' m' b' : Nat, b' - a' < b - a → a' < m' → m' < b' → b' ≤ n → Srt lt pos d' a' m' → Srt lt pos d' m' b' → Crs pos d' a' m' b' → Calls Try.prog 51 (symArgs g lb sf sb a' m' b') W' fun e w' => e = .returned (.tuple #[]) ∧ ∃ c : Array α, c.size = n ∧ PermIn a' b' d' c ∧ Srt lt pos c a' b' ∧ SW enc W' blk off c w') :
    Calls Try.prog 51 (symArgs g lb sf sb a m b) W fun e w' => e = .returned (.tuple #[]) ∧ ∃ c : Array α, c.size = n ∧ PermIn a b d c ∧ Srt lt pos c a b ∧ SW enc W blk off c w' := by
  obtain ⟨W1, hW1⟩ : ∃ W1, W1 = W.alloc (.cells #[.func (.func g) #[] lb, .func (.func sf) #[] sb] 57) := ⟨_, rfl⟩
  have E1 : SEnv enc lt g lb sf sb blk off n W1 d := by rw [hW1]; exact E0.alloc _
  have b0 : W1.cell? ⟨W.heap.size, 0, none⟩ = some (.func (.func g) #[] lb) := by rw [hW1]; simp
  have b1 : W1.cell? ⟨W.heap.size, 1, none⟩ = some (.func (.func sf) #[] sb) := by rw [hW1]; simp
  have hs1 : W.heap.size < W1.heap.size := by rw [hW1]; simp
  have eg := E0.eg
  have hlt := E0.lt
  have hsm := E0.small
  have HD := Lib.hid E0.size
  have HE := Lib.hid E1
  have HW1 := Lib.hid hW1
  have H1 := Lib.hid h1
  have H2 := Lib.hid h2
  have HX := Lib.hid hx
  have IH := Lib.hid ih
  obtain ⟨mid, hm0⟩ : ∃ mid : Nat, mid = (a + b) / 2 := ⟨_, rfl⟩
  obtain ⟨N, hN⟩ : ∃ N : Nat, N = mid + m := ⟨_, rfl⟩
  rw [← hm0] at hmid
  have q1 : ((m : Int) - (a : Int) == 1) = false := beq_eq_false_iff_ne.2 (by omega)
  have q2 : ((b : Int) - (m : Int) == 1) = false := beq_eq_false_iff_ne.2 (by omega)
  have em : ((a : Int) + (b : Int)) / 2 = (mid : Int) := by omega
  have eN : (mid : Int) + (m : Int) = (N : Int) := by omega
  have HMN := Lib.hid hN
  have n1 : N = mid + m := hN
  have n2 : N ≤ mid + m := by omega
  have n3 : mid + m ≤ N := by omega
  clear n1
  have g1 : 2 * mid ≤ a + b := by omega
  have g2 : a + b ≤ 2 * mid + 1 := by omega
  clear E0 E1 hW1 h1 h2 hx ih hm0 hN
  unfold symArgs
  go_enter Try.func51, Try.ntmps51
  go_wp2
  rw [← HW1.out]
  try rw [em]
  try rw [eN]
  have eL : (N : Int) - (b : Int) = ((N - b : Nat) : Int) := by omega
  try rw [eL]
  have HEM := Lib.hid em
  have HENN := Lib.hid eN
  have HEL := Lib.hid eL
  clear em eN eL q1 q2
  go_loopw [18, 19] (fun vs vr wr => ∃ (s r : Nat), vs = .int .i64 (s : Int) ∧ vr = .int .i64 (r : Int) ∧ (N - b) ≤ s ∧ s ≤ r ∧ r ≤ mid ∧ Hid (HA lt pos d a b N s) ∧ Hid (HB lt pos d m N r) ∧ SW enc W1 blk off d wr) (fun vs vr _ => (intOf vr).toNat - (intOf vs).toNat)
  case atStart => exact ⟨(N - b), mid, rfl, rfl, Nat.le_refl _, by omega, Nat.le_refl _, fun i j p1 p2 p3 p4 => by omega, fun i j p1 p2 p3 p4 => by omega, HE.out.start⟩
  case round =>
    obtain ⟨s, r, rfl, rfl, hls, hsr, hrh, hA, hB, hs⟩ := hrel
    have c0 : wr.cell? ⟨W.heap.size, 0, none⟩ = some (.func (.func g) #[] lb) := (sw_cell hs hs1 (by show W.heap.size ≠ blk; omega)).trans b0
    have HS := Lib.hid hs
    clear hs
    by_cases hlt2 : s < r
    · have hc := HE.out.ls HS.out HD.out (N - 1 - (s + r) / 2) ((s + r) / 2) (by omega) (by omega)
      rw [show ((N - 1 - (s + r) / 2 : Nat) : Int) = (N : Int) - 1 - ((s : Int) + (r : Int)) / 2 by omega, show (((s + r) / 2 : Nat) : Int) = ((s : Int) + (r : Int)) / 2 by omega] at hc
      cases hl : lt d[N - 1 - (s + r) / 2]! d[(s + r) / 2]! <;> rw [hl] at hc
      · have HL := Lib.hid (HA_step hO H1.out H2.out HX.out (show a ≤ (s + r) / 2 by omega) (show (s + r) / 2 < m by omega) (show m ≤ N - 1 - (s + r) / 2 by omega) (show N - 1 - (s + r) / 2 < b by omega) hl)
        have HC := Lib.hid hc
        clear hc hl
        go_wp2_with (go_at_fn g; refine HC.out.mono ?_; rintro e w2 ⟨rfl, hs2⟩; have HS2 := Lib.hid hs2; clear hs2)
        go_roundw
        case rel => exact ⟨(s + r) / 2 + 1, r, by congr 1 <;> omega, rfl, by omega, by omega, by omega, HL.out, hB, HS2.out⟩
        case measure => simp [intOf]; omega
      · have HL := Lib.hid (HB_step hO H1.out H2.out (show a ≤ (s + r) / 2 by omega) (show N - 1 - (s + r) / 2 < b by omega) hl)
        have HC := Lib.hid hc
        clear hc hl
        go_wp2_with (go_at_fn g; refine HC.out.mono ?_; rintro e w2 ⟨rfl, hs2⟩; have HS2 := Lib.hid hs2; clear hs2)
        go_roundw
        case rel => exact ⟨s, (s + r) / 2, rfl, by congr 1 <;> omega, by omega, by omega, by omega, hA, HL.out, HS2.out⟩
        case measure => simp [intOf]; omega
    · obtain rfl : s = r := by omega
      obtain ⟨E, hE⟩ : ∃ E : Nat, E = N - s := ⟨_, rfl⟩
      have hsE : E + s = mid + m := by omega
      have HEN := Lib.hid (show (N : Int) - (s : Int) = (E : Int) by omega)
      have k1 : a ≤ s := by omega
      have k2 : s ≤ m := by omega
      have k3 : m ≤ E := by omega
      have k4 : E ≤ b := by omega
      clear hE c0 hlt2 hls hsr hrh
      by_cases u1 : s = m
      · by_cases u2 : s < mid
        · exfalso; omega
        · exfalso; omega
      · by_cases u2 : E = m
        · have f0 : s < m := by omega
          have f1 : ¬ m < E := by omega
          have f2 : a < s := by omega
          have f3 : ¬ s < mid := by omega
          have f4 : mid < E := by omega
          have f5 : E < b := by omega
          obtain ⟨c, hcd⟩ : ∃ c, c = d := ⟨_, rfl⟩
          have HZ := Lib.hid (show c.size = n by rw [hcd]; exact HD.out)
          have HV := Lib.hid (show ∀ q, c[q]! = rotF (fun x => d[x]!) s m E q from fun q => by rw [hcd]; rw [show E = m by omega]; exact (rot_idr _ _ _ q).symm)
          have HP := Lib.hid (show PermIn a b d c by rw [hcd]; exact permIn_refl _ _ _)
          have HS2 := Lib.hid (show SW enc W1 blk off c wr by rw [hcd]; exact HS.out)
          clear hcd
          have HH := Lib.hid (halves_of (mid := mid) H1.out H2.out HX.out (by omega) (by omega) (by omega) (by omega) (by omega) (HMN.out ▸ hA.out) (HMN.out ▸ hB.out) HV.out)
          obtain ⟨c2, hcd⟩ : ∃ c2, c2 = c := ⟨_, rfl⟩
          have HZ2 := Lib.hid (show c2.size = n by rw [hcd]; exact HZ.out)
          have HP2 := Lib.hid (show PermIn a mid c c2 by rw [hcd]; exact permIn_refl _ _ _)
          have HR2 := Lib.hid (show Srt lt pos c2 a mid by rw [hcd]; have h := HH.out.l1; rw [show s = mid by omega] at h; exact h)
          have HS3 := Lib.hid (show SW enc W1 blk off c2 wr by rw [hcd]; exact HS2.out)
          clear hcd
          have hcall := IH.out wr c2 (HE.out.on HS3.out HZ2.out) mid E b (by omega) (by omega) (by omega) (by omega) (srt_keep HH.out.r1 HP2.out (.inr (Nat.le_refl _))) (srt_keep HH.out.r2 HP2.out (.inr (by omega))) (crs_keep HH.out.rx HP2.out (.inr (Nat.le_refl _)))
          unfold symArgs at hcall
          rw [← HEN.out] at hcall
          have HCALL2 := Lib.hid hcall
          clear hcall
          have c0 : wr.cell? ⟨W.heap.size, 0, none⟩ = some (.func (.func g) #[] lb) := (sw_cell HS3.out hs1 (by show W.heap.size ≠ blk; omega)).trans b0
          have c1 : wr.cell? ⟨W.heap.size, 1, none⟩ = some (.func (.func sf) #[] sb) := (sw_cell HS3.out hs1 (by show W.heap.size ≠ blk; omega)).trans b1
          go_wp2_with fail
          refine HCALL2.out.mono ?_
          rintro e w4 ⟨rfl, c3, hz, hp, hsr, hs2⟩
          have HZ3 := Lib.hid hz
          have HP3 := Lib.hid hp
          have HR3 := Lib.hid hsr
          have HS4 := Lib.hid (sw_trans HS3.out hs2 HE.out.lt (by rw [hz, HZ2.out]))
          clear hz hp hsr hs2 c0 c1
          obtain ⟨hp4, hs4⟩ := join_srt (a := a) (mid := mid) (b := b) (by omega) (by omega) (by rw [HZ.out]; exact hb) HH.out.lr HP2.out HR2.out HP3.out HR3.out
          have HR := Lib.hid (show ∃ c : Array α, c.size = n ∧ PermIn a b d c ∧ Srt lt pos c a b ∧ SW enc W blk off c w4 from ⟨c3, HZ3.out, permIn_trans _ _ _ a b HP.out hp4, hs4, sw_of_alloc (HW1.out ▸ HS4.out) hlt⟩)
          clear hp4 hs4 HH HZ HV HP HS2 HZ2 HP2 HR2 HS3 HZ3 HP3 HR3 HS4
          go_wp2
          go_end0
          exact ⟨rfl, HR.out⟩
        · by_cases u3 : a < s
          · by_cases u4 : E < b
            · have f0 : s < m := by omega
              have f1 : m < E := by omega
              have f2 : a < s := by omega
              have f3 : s < mid := by omega
              have f4 : mid < E := by omega
              have f5 : E < b := by omega
              have hcall := rotate_c (HE.out.on HS.out HD.out) s m E (by omega) (by omega) (by omega)
              rw [← HEN.out] at hcall
              have HCALL := Lib.hid hcall
              clear hcall
              have c0 : wr.cell? ⟨W.heap.size, 0, none⟩ = some (.func (.func g) #[] lb) := (sw_cell HS.out hs1 (by show W.heap.size ≠ blk; omega)).trans b0
              have c1 : wr.cell? ⟨W.heap.size, 1, none⟩ = some (.func (.func sf) #[] sb) := (sw_cell HS.out hs1 (by show W.heap.size ≠ blk; omega)).trans b1
              go_wp2_with fail
              refine HCALL.out.mono ?_
              rintro e w2 ⟨rfl, c, hz, hv, hp, hs2⟩
              have HZ := Lib.hid hz
              have HV := Lib.hid hv
              have HP := Lib.hid (permIn_mono _ _ s E a b (by omega) (by omega) (by rw [HD.out]; omega) hp)
              have HS2 := Lib.hid (sw_trans HS.out hs2 HE.out.lt (by rw [hz, HD.out]))
              clear hz hv hp hs2 c0 c1
              have HH := Lib.hid (halves_of (mid := mid) H1.out H2.out HX.out (by omega) (by omega) (by omega) (by omega) (by omega) (HMN.out ▸ hA.out) (HMN.out ▸ hB.out) HV.out)
              have HCALL1 := Lib.hid (IH.out w2 c (HE.out.on HS2.out HZ.out) a s mid (by omega) (by omega) (by omega) (by omega) HH.out.l1 HH.out.l2 HH.out.lx)
              have c0 : w2.cell? ⟨W.heap.size, 0, none⟩ = some (.func (.func g) #[] lb) := (sw_cell HS2.out hs1 (by show W.heap.size ≠ blk; omega)).trans b0
              have c1 : w2.cell? ⟨W.heap.size, 1, none⟩ = some (.func (.func sf) #[] sb) := (sw_cell HS2.out hs1 (by show W.heap.size ≠ blk; omega)).trans b1
              go_wp2_with fail
              refine HCALL1.out.mono ?_
              rintro e w3 ⟨rfl, c2, hz, hp, hsr, hs2⟩
              have HZ2 := Lib.hid hz
              have HP2 := Lib.hid hp
              have HR2 := Lib.hid hsr
              have HS3 := Lib.hid (sw_trans HS2.out hs2 HE.out.lt (by rw [hz, HZ.out]))
              clear hz hp hsr hs2 c0 c1
              have hcall := IH.out w3 c2 (HE.out.on HS3.out HZ2.out) mid E b (by omega) (by omega) (by omega) (by omega) (srt_keep HH.out.r1 HP2.out (.inr (Nat.le_refl _))) (srt_keep HH.out.r2 HP2.out (.inr (by omega))) (crs_keep HH.out.rx HP2.out (.inr (Nat.le_refl _)))
              unfold symArgs at hcall
              rw [← HEN.out] at hcall
              have HCALL2 := Lib.hid hcall
              clear hcall
              have c0 : w3.cell? ⟨W.heap.size, 0, none⟩ = some (.func (.func g) #[] lb) := (sw_cell HS3.out hs1 (by show W.heap.size ≠ blk; omega)).trans b0
              have c1 : w3.cell? ⟨W.heap.size, 1, none⟩ = some (.func (.func sf) #[] sb) := (sw_cell HS3.out hs1 (by show W.heap.size ≠ blk; omega)).trans b1
              go_wp2_with fail
              refine HCALL2.out.mono ?_
              rintro e w4 ⟨rfl, c3, hz, hp, hsr, hs2⟩
              have HZ3 := Lib.hid hz
              have HP3 := Lib.hid hp
              have HR3 := Lib.hid hsr
              have HS4 := Lib.hid (sw_trans HS3.out hs2 HE.out.lt (by rw [hz, HZ2.out]))
              clear hz hp hsr hs2 c0 c1
              obtain ⟨hp4, hs4⟩ := join_srt (a := a) (mid := mid) (b := b) (by omega) (by omega) (by rw [HZ.out]; exact hb) HH.out.lr HP2.out HR2.out HP3.out HR3.out
              have HR := Lib.hid (show ∃ c : Array α, c.size = n ∧ PermIn a b d c ∧ Srt lt pos c a b ∧ SW enc W blk off c w4 from ⟨c3, HZ3.out, permIn_trans _ _ _ a b HP.out hp4, hs4, sw_of_alloc (HW1.out ▸ HS4.out) hlt⟩)
              clear hp4 hs4 HH HZ HV HP HS2 HZ2 HP2 HR2 HS3 HZ3 HP3 HR3 HS4
              go_wp2
              go_end0
              exact ⟨rfl, HR.out⟩
            · have f0 : s < m := by omega
              have f1 : m < E := by omega
              have f2 : a < s := by omega
              have f3 : s < mid := by omega
              have f4 : mid < E := by omega
              have f5 : ¬ E < b := by omega
              have hcall := rotate_c (HE.out.on HS.out HD.out) s m E (by omega) (by omega) (by omega)
              rw [← HEN.out] at hcall
              have HCALL := Lib.hid hcall
              clear hcall
              have c0 : wr.cell? ⟨W.heap.size, 0, none⟩ = some (.func (.func g) #[] lb) := (sw_cell HS.out hs1 (by show W.heap.size ≠ blk; omega)).trans b0
              have c1 : wr.cell? ⟨W.heap.size, 1, none⟩ = some (.func (.func sf) #[] sb) := (sw_cell HS.out hs1 (by show W.heap.size ≠ blk; omega)).trans b1
              go_wp2_with fail
              refine HCALL.out.mono ?_
              rintro e w2 ⟨rfl, c, hz, hv, hp, hs2⟩
              have HZ := Lib.hid hz
              have HV := Lib.hid hv
              have HP := Lib.hid (permIn_mono _ _ s E a b (by omega) (by omega) (by rw [HD.out]; omega) hp)
              have HS2 := Lib.hid (sw_trans HS.out hs2 HE.out.lt (by rw [hz, HD.out]))
              clear hz hv hp hs2 c0 c1
              have HH := Lib.hid (halves_of (mid := mid) H1.out H2.out HX.out (by omega) (by omega) (by omega) (by omega) (by omega) (HMN.out ▸ hA.out) (HMN.out ▸ hB.out) HV.out)
              have HCALL1 := Lib.hid (IH.out w2 c (HE.out.on HS2.out HZ.out) a s mid (by omega) (by omega) (by omega) (by omega) HH.out.l1 HH.out.l2 HH.out.lx)
              have c0 : w2.cell? ⟨W.heap.size, 0, none⟩ = some (.func (.func g) #[] lb) := (sw_cell HS2.out hs1 (by show W.heap.size ≠ blk; omega)).trans b0
              have c1 : w2.cell? ⟨W.heap.size, 1, none⟩ = some (.func (.func sf) #[] sb) := (sw_cell HS2.out hs1 (by show W.heap.size ≠ blk; omega)).trans b1
              go_wp2_with fail
              refine HCALL1.out.mono ?_
              rintro e w3 ⟨rfl, c2, hz, hp, hsr, hs2⟩
              have HZ2 := Lib.hid hz
              have HP2 := Lib.hid hp
              have HR2 := Lib.hid hsr
              have HS3 := Lib.hid (sw_trans HS2.out hs2 HE.out.lt (by rw [hz, HZ.out]))
              clear hz hp hsr hs2 c0 c1
              obtain ⟨c3, hcd⟩ : ∃ c3, c3 = c2 := ⟨_, rfl⟩
              have HZ3 := Lib.hid (show c3.size = n by rw [hcd]; exact HZ2.out)
              have HP3 := Lib.hid (show PermIn mid b c2 c3 by rw [hcd]; exact permIn_refl _ _ _)
              have HR3 := Lib.hid (show Srt lt pos c3 mid b by rw [hcd]; refine srt_keep (x := mid) (y := b) ?_ HP2.out (.inr (Nat.le_refl _)); have h := HH.out.r1; rw [show E = b by omega] at h; exact h)
              have HS4 := Lib.hid (show SW enc W1 blk off c3 w3 by rw [hcd]; exact HS3.out)
              clear hcd
              obtain ⟨hp4, hs4⟩ := join_srt (a := a) (mid := mid) (b := b) (by omega) (by omega) (by rw [HZ.out]; exact hb) HH.out.lr HP2.out HR2.out HP3.out HR3.out
              have HR := Lib.hid (show ∃ c : Array α, c.size = n ∧ PermIn a b d c ∧ Srt lt pos c a b ∧ SW enc W blk off c w3 from ⟨c3, HZ3.out, permIn_trans _ _ _ a b HP.out hp4, hs4, sw_of_alloc (HW1.out ▸ HS4.out) hlt⟩)
              clear hp4 hs4 HH HZ HV HP HS2 HZ2 HP2 HR2 HS3 HZ3 HP3 HR3 HS4
              go_wp2
              go_end0
              exact ⟨rfl, HR.out⟩
          · by_cases u4 : E < b
            · exfalso; omega
            · have f0 : s < m := by omega
              have f1 : m < E := by omega
              have f2 : ¬ a < s := by omega
              have f3 : mid < E := by omega
              have f4 : ¬ E < b := by omega
              have hcall := rotate_c (HE.out.on HS.out HD.out) s m E (by omega) (by omega) (by omega)
              rw [← HEN.out] at hcall
              have HCALL := Lib.hid hcall
              clear hcall
              have c0 : wr.cell? ⟨W.heap.size, 0, none⟩ = some (.func (.func g) #[] lb) := (sw_cell HS.out hs1 (by show W.heap.size ≠ blk; omega)).trans b0
              have c1 : wr.cell? ⟨W.heap.size, 1, none⟩ = some (.func (.func sf) #[] sb) := (sw_cell HS.out hs1 (by show W.heap.size ≠ blk; omega)).trans b1
              go_wp2_with fail
              refine HCALL.out.mono ?_
              rintro e w2 ⟨rfl, c, hz, hv, hp, hs2⟩
              have HZ := Lib.hid hz
              have HV := Lib.hid hv
              have HP := Lib.hid (permIn_mono _ _ s E a b (by omega) (by omega) (by rw [HD.out]; omega) hp)
              have HS2 := Lib.hid (sw_trans HS.out hs2 HE.out.lt (by rw [hz, HD.out]))
              clear hz hv hp hs2 c0 c1
              have HH := Lib.hid (halves_of (mid := mid) H1.out H2.out HX.out (by omega) (by omega) (by omega) (by omega) (by omega) (HMN.out ▸ hA.out) (HMN.out ▸ hB.out) HV.out)
              obtain ⟨c2, hcd⟩ : ∃ c2, c2 = c := ⟨_, rfl⟩
              have HZ2 := Lib.hid (show c2.size = n by rw [hcd]; exact HZ.out)
              have HP2 := Lib.hid (show PermIn a mid c c2 by rw [hcd]; exact permIn_refl _ _ _)
              have HR2 := Lib.hid (show Srt lt pos c2 a mid by rw [hcd]; have h := HH.out.l2; rw [show s = a by omega] at h; exact h)
              have HS3 := Lib.hid (show SW enc W1 blk off c2 w2 by rw [hcd]; exact HS2.out)
              clear hcd
              obtain ⟨c3, hcd⟩ : ∃ c3, c3 = c2 := ⟨_, rfl⟩
              have HZ3 := Lib.hid (show c3.size = n by rw [hcd]; exact HZ2.out)
              have HP3 := Lib.hid (show PermIn mid b c2 c3 by rw [hcd]; exact permIn_refl _ _ _)
              have HR3 := Lib.hid (show Srt lt pos c3 mid b by rw [hcd]; refine srt_keep (x := mid) (y := b) ?_ HP2.out (.inr (Nat.le_refl _)); have h := HH.out.r1; rw [show E = b by omega] at h; exact h)
              have HS4 := Lib.hid (show SW enc W1 blk off c3 w2 by rw [hcd]; exact HS3.out)
              clear hcd
              obtain ⟨hp4, hs4⟩ := join_srt (a := a) (mid := mid) (b := b) (by omega) (by omega) (by rw [HZ.out]; exact hb) HH.out.lr HP2.out HR2.out HP3.out HR3.out
              have HR := Lib.hid (show ∃ c : Array α, c.size = n ∧ PermIn a b d c ∧ Srt lt pos c a b ∧ SW enc W blk off c w2 from ⟨c3, HZ3.out, permIn_trans _ _ _ a b HP.out hp4, hs4, sw_of_alloc (HW1.out ▸ HS4.out) hlt⟩)
              clear hp4 hs4 HH HZ HV HP HS2 HZ2 HP2 HR2 HS3 HZ3 HP3 HR3 HS4
              go_wp2
              go_end0
              exact ⟨rfl, HR.out⟩

set_option maxHeartbeats 8000000 in
set_option maxRecDepth 100000 in
theorem symLe_c {α : Type} [Inhabited α] {enc : α → Value} {lt : α → α → Bool} {pos : α → Int} (hO : SWO lt) {g : Nat} {lb : Array Value} {sf : Nat} {sb : Array Value} {blk off n : Nat} {W : World} {d : Array α} (E0 : SEnv enc lt g lb sf sb blk off n W d) (a m b : Nat) (ham : a + 1 < m) (hmb : m + 1 < b) (hb : b ≤ n) (hmid : m ≤ (a + b) / 2)
    (h1 : Srt lt pos d a m) (h2 : Srt lt pos d m b) (hx : Crs pos d a m b) (ih : ∀ (W' : World) (d' : Array α), SEnv enc lt g lb sf sb blk off n W' d' → ∀ a' m' b' : Nat, b' - a' < b - a → a' < m' → m' < b' → b' ≤ n → Srt lt pos d' a' m' → Srt lt pos d' m' b' → Crs pos d' a' m' b' → Calls Try.prog 51 (symArgs g lb sf sb a' m' b') W' fun e w' => e = .returned (.tuple #[]) ∧ ∃ c : Array α, c.size = n ∧ PermIn a' b' d' c ∧ Srt lt pos c a' b' ∧ SW enc W' blk off c w') :
    Calls Try.prog 51 (symArgs g lb sf sb a m b) W fun e w' => e = .returned (.tuple #[]) ∧ ∃ c : Array α, c.size = n ∧ PermIn a b d c ∧ Srt lt pos c a b ∧ SW enc W blk off c w' := by
  obtain ⟨W1, hW1⟩ : ∃ W1, W1 = W.alloc (.cells #[.func (.func g) #[] lb, .func (.func sf) #[] sb] 57) := ⟨_, rfl⟩
  have E1 : SEnv enc lt g lb sf sb blk off n W1 d := by rw [hW1]; exact E0.alloc _
  have b0 : W1.cell? ⟨W.heap.size, 0, none⟩ = some (.func (.func g) #[] lb) := by rw [hW1]; simp
  have b1 : W1.cell? ⟨W.heap.size, 1, none⟩ = some (.func (.func sf) #[] sb) := by rw [hW1]; simp
  have hs1 : W.heap.size < W1.heap.size := by rw [hW1]; simp
  have eg := E0.eg
  have hlt := E0.lt
  have hsm := E0.small
  have HD := Lib.hid E0.size
  have HE := Lib.hid E1
  have HW1 := Lib.hid hW1
  have H1 := Lib.hid h1
  have H2 := Lib.hid h2
  have HX := Lib.hid hx
  have IH := Lib.hid ih
  obtain ⟨mid, hm0⟩ : ∃ mid : Nat, mid = (a + b) / 2 := ⟨_, rfl⟩
  obtain ⟨N, hN⟩ : ∃ N : Nat, N = mid + m := ⟨_, rfl⟩
  rw [← hm0] at hmid
  have hmn : ¬ mid < m := by omega
  have q1 : ((m : Int) - (a : Int) == 1) = false := beq_eq_false_iff_ne.2 (by omega)
  have q2 : ((b : Int) - (m : Int) == 1) = false := beq_eq_false_iff_ne.2 (by omega)
  have em : ((a : Int) + (b : Int)) / 2 = (mid : Int) := by omega
  have eN : (mid : Int) + (m : Int) = (N : Int) := by omega
  have HMN := Lib.hid hN
  have n1 : N = mid + m := hN
  have n2 : N ≤ mid + m := by omega
  have n3 : mid + m ≤ N := by omega
  clear n1
  have g1 : 2 * mid ≤ a + b := by omega
  have g2 : a + b ≤ 2 * mid + 1 := by omega
  clear E0 E1 hW1 h1 h2 hx ih hm0 hN
  unfold symArgs
  go_enter Try.func51, Try.ntmps51
  go_wp2
  rw [← HW1.out]
  try rw [em]
  try rw [eN]
  have HEM := Lib.hid em
  have HENN := Lib.hid eN
  skip
  clear em eN  q1 q2
  go_loopw [18, 19] (fun vs vr wr => ∃ (s r : Nat), vs = .int .i64 (s : Int) ∧ vr = .int .i64 (r : Int) ∧ a ≤ s ∧ s ≤ r ∧ r ≤ m ∧ Hid (HA lt pos d a b N s) ∧ Hid (HB lt pos d m N r) ∧ SW enc W1 blk off d wr) (fun vs vr _ => (intOf vr).toNat - (intOf vs).toNat)
  case atStart => exact ⟨a, m, rfl, rfl, Nat.le_refl _, by omega, Nat.le_refl _, fun i j p1 p2 p3 p4 => by omega, fun i j p1 p2 p3 p4 => by omega, HE.out.start⟩
  case round =>
    obtain ⟨s, r, rfl, rfl, hls, hsr, hrh, hA, hB, hs⟩ := hrel
    have c0 : wr.cell? ⟨W.heap.size, 0, none⟩ = some (.func (.func g) #[] lb) := (sw_cell hs hs1 (by show W.heap.size ≠ blk; omega)).trans b0
    have HS := Lib.hid hs
    clear hs
    by_cases hlt2 : s < r
    · have hc := HE.out.ls HS.out HD.out (N - 1 - (s + r) / 2) ((s + r) / 2) (by omega) (by omega)
      rw [show ((N - 1 - (s + r) / 2 : Nat) : Int) = (N : Int) - 1 - ((s : Int) + (r : Int)) / 2 by omega, show (((s + r) / 2 : Nat) : Int) = ((s : Int) + (r : Int)) / 2 by omega] at hc
      cases hl : lt d[N - 1 - (s + r) / 2]! d[(s + r) / 2]! <;> rw [hl] at hc
      · have HL := Lib.hid (HA_step hO H1.out H2.out HX.out (show a ≤ (s + r) / 2 by omega) (show (s + r) / 2 < m by omega) (show m ≤ N - 1 - (s + r) / 2 by omega) (show N - 1 - (s + r) / 2 < b by omega) hl)
        have HC := Lib.hid hc
        clear hc hl
        go_wp2_with (go_at_fn g; refine HC.out.mono ?_; rintro e w2 ⟨rfl, hs2⟩; have HS2 := Lib.hid hs2; clear hs2)
        go_roundw
        case rel => exact ⟨(s + r) / 2 + 1, r, by congr 1 <;> omega, rfl, by omega, by omega, by omega, HL.out, hB, HS2.out⟩
        case measure => simp [intOf]; omega
      · have HL := Lib.hid (HB_step hO H1.out H2.out (show a ≤ (s + r) / 2 by omega) (show N - 1 - (s + r) / 2 < b by omega) hl)
        have HC := Lib.hid hc
        clear hc hl
        go_wp2_with (go_at_fn g; refine HC.out.mono ?_; rintro e w2 ⟨rfl, hs2⟩; have HS2 := Lib.hid hs2; clear hs2)
        go_roundw
        case rel => exact ⟨s, (s + r) / 2, rfl, by congr 1 <;> omega, by omega, by omega, by omega, hA, HL.out, HS2.out⟩
        case measure => simp [intOf]; omega
    · obtain rfl : s = r := by omega
      obtain ⟨E, hE⟩ : ∃ E : Nat, E = N - s := ⟨_, rfl⟩
      have hsE : E + s = mid + m := by omega
      have HEN := Lib.hid (show (N : Int) - (s : Int) = (E : Int) by omega)
      have k1 : a ≤ s := by omega
      have k2 : s ≤ m := by omega
      have k3 : m ≤ E := by omega
      have k4 : E ≤ b := by omega
      clear hE c0 hlt2 hls hsr hrh
      by_cases u1 : s = m
      · by_cases u2 : s < mid
        · have f0 : ¬ s < m := by omega
          have f1 : a < s := by omega
          have f2 : s < mid := by omega
          have f3 : ¬ mid < E := by omega
          obtain ⟨c, hcd⟩ : ∃ c, c = d := ⟨_, rfl⟩
          have HZ := Lib.hid (show c.size = n by rw [hcd]; exact HD.out)
          have HV := Lib.hid (show ∀ q, c[q]! = rotF (fun x => d[x]!) s m E q from fun q => by rw [hcd]; rw [show s = m by omega]; exact (rot_idl _ _ _ q).symm)
          have HP := Lib.hid (show PermIn a b d c by rw [hcd]; exact permIn_refl _ _ _)
          have HS2 := Lib.hid (show SW enc W1 blk off c wr by rw [hcd]; exact HS.out)
          clear hcd
          have HH := Lib.hid (halves_of (mid := mid) H1.out H2.out HX.out (by omega) (by omega) (by omega) (by omega) (by omega) (HMN.out ▸ hA.out) (HMN.out ▸ hB.out) HV.out)
          have HCALL1 := Lib.hid (IH.out wr c (HE.out.on HS2.out HZ.out) a s mid (by omega) (by omega) (by omega) (by omega) HH.out.l1 HH.out.l2 HH.out.lx)
          have c0 : wr.cell? ⟨W.heap.size, 0, none⟩ = some (.func (.func g) #[] lb) := (sw_cell HS2.out hs1 (by show W.heap.size ≠ blk; omega)).trans b0
          have c1 : wr.cell? ⟨W.heap.size, 1, none⟩ = some (.func (.func sf) #[] sb) := (sw_cell HS2.out hs1 (by show W.heap.size ≠ blk; omega)).trans b1
          have U1 := Lib.hid u1
          clear u1
          go_wp2_with fail
          refine HCALL1.out.mono ?_
          rintro e w3 ⟨rfl, c2, hz, hp, hsr, hs2⟩
          have HZ2 := Lib.hid hz
          have HP2 := Lib.hid hp
          have HR2 := Lib.hid hsr
          have HS3 := Lib.hid (sw_trans HS2.out hs2 HE.out.lt (by rw [hz, HZ.out]))
          clear hz hp hsr hs2 c0 c1
          obtain ⟨c3, hcd⟩ : ∃ c3, c3 = c2 := ⟨_, rfl⟩
          have HZ3 := Lib.hid (show c3.size = n by rw [hcd]; exact HZ2.out)
          have HP3 := Lib.hid (show PermIn mid b c2 c3 by rw [hcd]; exact permIn_refl _ _ _)
          have HR3 := Lib.hid (show Srt lt pos c3 mid b by rw [hcd]; refine srt_keep (x := mid) (y := b) ?_ HP2.out (.inr (Nat.le_refl _)); have h := HH.out.r2; rw [show E = mid by have := U1.out; omega] at h; exact h)
          have HS4 := Lib.hid (show SW enc W1 blk off c3 w3 by rw [hcd]; exact HS3.out)
          clear hcd
          obtain ⟨hp4, hs4⟩ := join_srt (a := a) (mid := mid) (b := b) (by omega) (by omega) (by rw [HZ.out]; exact hb) HH.out.lr HP2.out HR2.out HP3.out HR3.out
          have HR := Lib.hid (show ∃ c : Array α, c.size = n ∧ PermIn a b d c ∧ Srt lt pos c a b ∧ SW enc W blk off c w3 from ⟨c3, HZ3.out, permIn_trans _ _ _ a b HP.out hp4, hs4, sw_of_alloc (HW1.out ▸ HS4.out) hlt⟩)
          clear hp4 hs4 HH HZ HV HP HS2 HZ2 HP2 HR2 HS3 HZ3 HP3 HR3 HS4
          go_wp2
          go_end0
          exact ⟨rfl, HR.out⟩
        · have f0 : ¬ s < m := by omega
          have f1 : a < s := by omega
          have f2 : ¬ s < mid := by omega
          have f3 : ¬ mid < E := by omega
          obtain ⟨c, hcd⟩ : ∃ c, c = d := ⟨_, rfl⟩
          have HZ := Lib.hid (show c.size = n by rw [hcd]; exact HD.out)
          have HV := Lib.hid (show ∀ q, c[q]! = rotF (fun x => d[x]!) s m E q from fun q => by rw [hcd]; rw [show s = m by omega]; exact (rot_idl _ _ _ q).symm)
          have HP := Lib.hid (show PermIn a b d c by rw [hcd]; exact permIn_refl _ _ _)
          have HS2 := Lib.hid (show SW enc W1 blk off c wr by rw [hcd]; exact HS.out)
          clear hcd
          have HH := Lib.hid (halves_of (mid := mid) H1.out H2.out HX.out (by omega) (by omega) (by omega) (by omega) (by omega) (HMN.out ▸ hA.out) (HMN.out ▸ hB.out) HV.out)
          obtain ⟨c2, hcd⟩ : ∃ c2, c2 = c := ⟨_, rfl⟩
          have HZ2 := Lib.hid (show c2.size = n by rw [hcd]; exact HZ.out)
          have HP2 := Lib.hid (show PermIn a mid c c2 by rw [hcd]; exact permIn_refl _ _ _)
          have HR2 := Lib.hid (show Srt lt pos c2 a mid by rw [hcd]; have h := HH.out.l1; rw [show s = mid by omega] at h; exact h)
          have HS3 := Lib.hid (show SW enc W1 blk off c2 wr by rw [hcd]; exact HS2.out)
          clear hcd
          obtain ⟨c3, hcd⟩ : ∃ c3, c3 = c2 := ⟨_, rfl⟩
          have HZ3 := Lib.hid (show c3.size = n by rw [hcd]; exact HZ2.out)
          have HP3 := Lib.hid (show PermIn mid b c2 c3 by rw [hcd]; exact permIn_refl _ _ _)
          have HR3 := Lib.hid (show Srt lt pos c3 mid b by rw [hcd]; refine srt_keep (x := mid) (y := b) ?_ HP2.out (.inr (Nat.le_refl _)); have h := HH.out.r2; rw [show E = mid by omega] at h; exact h)
          have HS4 := Lib.hid (show SW enc W1 blk off c3 wr by rw [hcd]; exact HS3.out)
          clear hcd
          obtain ⟨hp4, hs4⟩ := join_srt (a := a) (mid := mid) (b := b) (by omega) (by omega) (by rw [HZ.out]; exact hb) HH.out.lr HP2.out HR2.out HP3.out HR3.out
          have HR := Lib.hid (show ∃ c : Array α, c.size = n ∧ PermIn a b d c ∧ Srt lt pos c a b ∧ SW enc W blk off c wr from ⟨c3, HZ3.out, permIn_trans _ _ _ a b HP.out hp4, hs4, sw_of_alloc (HW1.out ▸ HS4.out) hlt⟩)
          clear hp4 hs4 HH HZ HV HP HS2 HZ2 HP2 HR2 HS3 HZ3 HP3 HR3 HS4
          go_wp2
          go_end0
          exact ⟨rfl, HR.out⟩
      · by_cases u2 : E = m
        · exfalso; omega
        · by_cases u3 : a < s
          · by_cases u4 : E < b
            · have f0 : s < m := by omega
              have f1 : m < E := by omega
              have f2 : a < s := by omega
              have f3 : s < mid := by omega
              have f4 : mid < E := by omega
              have f5 : E < b := by omega
              have hcall := rotate_c (HE.out.on HS.out HD.out) s m E (by omega) (by omega) (by omega)
              rw [← HEN.out] at hcall
              have HCALL := Lib.hid hcall
              clear hcall
              have c0 : wr.cell? ⟨W.heap.size, 0, none⟩ = some (.func (.func g) #[] lb) := (sw_cell HS.out hs1 (by show W.heap.size ≠ blk; omega)).trans b0
              have c1 : wr.cell? ⟨W.heap.size, 1, none⟩ = some (.func (.func sf) #[] sb) := (sw_cell HS.out hs1 (by show W.heap.size ≠ blk; omega)).trans b1
              go_wp2_with fail
              refine HCALL.out.mono ?_
              rintro e w2 ⟨rfl, c, hz, hv, hp, hs2⟩
              have HZ := Lib.hid hz
              have HV := Lib.hid hv
              have HP := Lib.hid (permIn_mono _ _ s E a b (by omega) (by omega) (by rw [HD.out]; omega) hp)
              have HS2 := Lib.hid (sw_trans HS.out hs2 HE.out.lt (by rw [hz, HD.out]))
              clear hz hv hp hs2 c0 c1
              have HH := Lib.hid (halves_of (mid := mid) H1.out H2.out HX.out (by omega) (by omega) (by omega) (by omega) (by omega) (HMN.out ▸ hA.out) (HMN.out ▸ hB.out) HV.out)
              have HCALL1 := Lib.hid (IH.out w2 c (HE.out.on HS2.out HZ.out) a s mid (by omega) (by omega) (by omega) (by omega) HH.out.l1 HH.out.l2 HH.out.lx)
              have c0 : w2.cell? ⟨W.heap.size, 0, none⟩ = some (.func (.func g) #[] lb) := (sw_cell HS2.out hs1 (by show W.heap.size ≠ blk; omega)).trans b0
              have c1 : w2.cell? ⟨W.heap.size, 1, none⟩ = some (.func (.func sf) #[] sb) := (sw_cell HS2.out hs1 (by show W.heap.size ≠ blk; omega)).trans b1
              go_wp2_with fail
              refine HCALL1.out.mono ?_
              rintro e w3 ⟨rfl, c2, hz, hp, hsr, hs2⟩
              have HZ2 := Lib.hid hz
              have HP2 := Lib.hid hp
              have HR2 := Lib.hid hsr
              have HS3 := Lib.hid (sw_trans HS2.out hs2 HE.out.lt (by rw [hz, HZ.out]))
              clear hz hp hsr hs2 c0 c1
              have hcall := IH.out w3 c2 (HE.out.on HS3.out HZ2.out) mid E b (by omega) (by omega) (by omega) (by omega) (srt_keep HH.out.r1 HP2.out (.inr (Nat.le_refl _))) (srt_keep HH.out.r2 HP2.out (.inr (by omega))) (crs_keep HH.out.rx HP2.out (.inr (Nat.le_refl _)))
              unfold symArgs at hcall
              rw [← HEN.out] at hcall
              have HCALL2 := Lib.hid hcall
              clear hcall
              have c0 : w3.cell? ⟨W.heap.size, 0, none⟩ = some (.func (.func g) #[] lb) := (sw_cell HS3.out hs1 (by show W.heap.size ≠ blk; omega)).trans b0
              have c1 : w3.cell? ⟨W.heap.size, 1, none⟩ = some (.func (.func sf) #[] sb) := (sw_cell HS3.out hs1 (by show W.heap.size ≠ blk; omega)).trans b1
              go_wp2_with fail
              refine HCALL2.out.mono ?_
              rintro e w4 ⟨rfl, c3, hz, hp, hsr, hs2⟩
              have HZ3 := Lib.hid hz
              have HP3 := Lib.hid hp
              have HR3 := Lib.hid hsr
              have HS4 := Lib.hid (sw_trans HS3.out hs2 HE.out.lt (by rw [hz, HZ2.out]))
              clear hz hp hsr hs2 c0 c1
              obtain ⟨hp4, hs4⟩ := join_srt (a := a) (mid := mid) (b := b) (by omega) (by omega) (by rw [HZ.out]; exact hb) HH.out.lr HP2.out HR2.out HP3.out HR3.out
              have HR := Lib.hid (show ∃ c : Array α, c.size = n ∧ PermIn a b d c ∧ Srt lt pos c a b ∧ SW enc W blk off c w4 from ⟨c3, HZ3.out, permIn_trans _ _ _ a b HP.out hp4, hs4, sw_of_alloc (HW1.out ▸ HS4.out) hlt⟩)
              clear hp4 hs4 HH HZ HV HP HS2 HZ2 HP2 HR2 HS3 HZ3 HP3 HR3 HS4
              go_wp2
              go_end0
              exact ⟨rfl, HR.out⟩
            · exfalso; omega
          · by_cases u4 : E < b
            · have f0 : s < m := by omega
              have f1 : m < E := by omega
              have f2 : ¬ a < s := by omega
              have f3 : mid < E := by omega
              have f4 : E < b := by omega
              have hcall := rotate_c (HE.out.on HS.out HD.out) s m E (by omega) (by omega) (by omega)
              rw [← HEN.out] at hcall
              have HCALL := Lib.hid hcall
              clear hcall
              have c0 : wr.cell? ⟨W.heap.size, 0, none⟩ = some (.func (.func g) #[] lb) := (sw_cell HS.out hs1 (by show W.heap.size ≠ blk; omega)).trans b0
              have c1 : wr.cell? ⟨W.heap.size, 1, none⟩ = some (.func (.func sf) #[] sb) := (sw_cell HS.out hs1 (by show W.heap.size ≠ blk; omega)).trans b1
              go_wp2_with fail
              refine HCALL.out.mono ?_
              rintro e w2 ⟨rfl, c, hz, hv, hp, hs2⟩
              have HZ := Lib.hid hz
              have HV := Lib.hid hv
              have HP := Lib.hid (permIn_mono _ _ s E a b (by omega) (by omega) (by rw [HD.out]; omega) hp)
              have HS2 := Lib.hid (sw_trans HS.out hs2 HE.out.lt (by rw [hz, HD.out]))
              clear hz hv hp hs2 c0 c1
              have HH := Lib.hid (halves_of (mid := mid) H1.out H2.out HX.out (by omega) (by omega) (by omega) (by omega) (by omega) (HMN.out ▸ hA.out) (HMN.out ▸ hB.out) HV.out)
              obtain ⟨c2, hcd⟩ : ∃ c2, c2 = c := ⟨_, rfl⟩
              have HZ2 := Lib.hid (show c2.size = n by rw [hcd]; exact HZ.out)
              have HP2 := Lib.hid (show PermIn a mid c c2 by rw [hcd]; exact permIn_refl _ _ _)
              have HR2 := Lib.hid (show Srt lt pos c2 a mid by rw [hcd]; have h := HH.out.l2; rw [show s = a by omega] at h; exact h)
              have HS3 := Lib.hid (show SW enc W1 blk off c2 w2 by rw [hcd]; exact HS2.out)
              clear hcd
              have hcall := IH.out w2 c2 (HE.out.on HS3.out HZ2.out) mid E b (by omega) (by omega) (by omega) (by omega) (srt_keep HH.out.r1 HP2.out (.inr (Nat.le_refl _))) (srt_keep HH.out.r2 HP2.out (.inr (by omega))) (crs_keep HH.out.rx HP2.out (.inr (Nat.le_refl _)))
              unfold symArgs at hcall
              rw [← HEN.out] at hcall
              have HCALL2 := Lib.hid hcall
              clear hcall
              have c0 : w2.cell? ⟨W.heap.size, 0, none⟩ = some (.func (.func g) #[] lb) := (sw_cell HS3.out hs1 (by show W.heap.size ≠ blk; omega)).trans b0
              have c1 : w2.cell? ⟨W.heap.size, 1, none⟩ = some (.func (.func sf) #[] sb) := (sw_cell HS3.out hs1 (by show W.heap.size ≠ blk; omega)).trans b1
              go_wp2_with fail
              refine HCALL2.out.mono ?_
              rintro e w4 ⟨rfl, c3, hz, hp, hsr, hs2⟩
              have HZ3 := Lib.hid hz
              have HP3 := Lib.hid hp
              have HR3 := Lib.hid hsr
              have HS4 := Lib.hid (sw_trans HS3.out hs2 HE.out.lt (by rw [hz, HZ2.out]))
              clear hz hp hsr hs2 c0 c1
              obtain ⟨hp4, hs4⟩ := join_srt (a := a) (mid := mid) (b := b) (by omega) (by omega) (by rw [HZ.out]; exact hb) HH.out.lr HP2.out HR2.out HP3.out HR3.out
              have HR := Lib.hid (show ∃ c : Array α, c.size = n ∧ PermIn a b d c ∧ Srt lt pos c a b ∧ SW enc W blk off c w4 from ⟨c3, HZ3.out, permIn_trans _ _ _ a b HP.out hp4, hs4, sw_of_alloc (HW1.out ▸ HS4.out) hlt⟩)
              clear hp4 hs4 HH HZ HV HP HS2 HZ2 HP2 HR2 HS3 HZ3 HP3 HR3 HS4
              go_wp2
              go_end0
              exact ⟨rfl, HR.out⟩
            · have f0 : s < m := by omega
              have f1 : m < E := by omega
              have f2 : ¬ a < s := by omega
              have f3 : mid < E := by omega
              have f4 : ¬ E < b := by omega
              have hcall := rotate_c (HE.out.on HS.out HD.out) s m E (by omega) (by omega) (by omega)
              rw [← HEN.out] at hcall
              have HCALL := Lib.hid hcall
              clear hcall
              have c0 : wr.cell? ⟨W.heap.size, 0, none⟩ = some (.func (.func g) #[] lb) := (sw_cell HS.out hs1 (by show W.heap.size ≠ blk; omega)).trans b0
              have c1 : wr.cell? ⟨W.heap.size, 1, none⟩ = some (.func (.func sf) #[] sb) := (sw_cell HS.out hs1 (by show W.heap.size ≠ blk; omega)).trans b1
              go_wp2_with fail
              refine HCALL.out.mono ?_
              rintro e w2 ⟨rfl, c, hz, hv, hp, hs2⟩
              have HZ := Lib.hid hz
              have HV := Lib.hid hv
              have HP := Lib.hid (permIn_mono _ _ s E a b (by omega) (by omega) (by rw [HD.out]; omega) hp)
              have HS2 := Lib.hid (sw_trans HS.out hs2 HE.out.lt (by rw [hz, HD.out]))
              clear hz hv hp hs2 c0 c1
              have HH := Lib.hid (halves_of (mid := mid) H1.out H2.out HX.out (by omega) (by omega) (by omega) (by omega) (by omega) (HMN.out ▸ hA.out) (HMN.out ▸ hB.out) HV.out)
              obtain ⟨c2, hcd⟩ : ∃ c2, c2 = c := ⟨_, rfl⟩
              have HZ2 := Lib.hid (show c2.size = n by rw [hcd]; exact HZ.out)
              have HP2 := Lib.hid (show PermIn a mid c c2 by rw [hcd]; exact permIn_refl _ _ _)
              have HR2 := Lib.hid (show Srt lt pos c2 a mid by rw [hcd]; have h := HH.out.l2; rw [show s = a by omega] at h; exact h)
              have HS3 := Lib.hid (show SW enc W1 blk off c2 w2 by rw [hcd]; exact HS2.out)
              clear hcd
              obtain ⟨c3, hcd⟩ : ∃ c3, c3 = c2 := ⟨_, rfl⟩
              have HZ3 := Lib.hid (show c3.size = n by rw [hcd]; exact HZ2.out)
              have HP3 := Lib.hid (show PermIn mid b c2 c3 by rw [hcd]; exact permIn_refl _ _ _)
              have HR3 := Lib.hid (show Srt lt pos c3 mid b by rw [hcd]; refine srt_keep (x := mid) (y := b) ?_ HP2.out (.inr (Nat.le_refl _)); have h := HH.out.r1; rw [show E = b by omega] at h; exact h)
              have HS4 := Lib.hid (show SW enc W1 blk off c3 w2 by rw [hcd]; exact HS3.out)
              clear hcd
              obtain ⟨hp4, hs4⟩ := join_srt (a := a) (mid := mid) (b := b) (by omega) (by omega) (by rw [HZ.out]; exact hb) HH.out.lr HP2.out HR2.out HP3.out HR3.out
              have HR := Lib.hid (show ∃ c : Array α, c.size = n ∧ PermIn a b d c ∧ Srt lt pos c a b ∧ SW enc W blk off c w2 from ⟨c3, HZ3.out, permIn_trans _ _ _ a b HP.out hp4, hs4, sw_of_alloc (HW1.out ▸ HS4.out) hlt⟩)
              clear hp4 hs4 HH HZ HV HP HS2 HZ2 HP2 HR2 HS3 HZ3 HP3 HR3 HS4
              go_wp2
              go_end0
              exact ⟨rfl, HR.out⟩

theorem symMerge_c {α : Type} [Inhabited α] {enc : α → Value} {lt : α → α → Bool} {pos : α → Int} (hO : SWO lt) {g : Nat} {lb : Array Value} {sf : Nat} {sb : Array Value} {blk off n : Nat} : ∀ (f : Nat) (W : World) (d : Array α), SEnv enc lt g lb sf sb blk off n W d → ∀ a m b : Nat, b - a ≤ f → a < m → m < b → b ≤ n → Srt lt pos d a m → Srt lt pos d m b → Crs pos d a m b → Calls Try.prog 51 (symArgs g lb sf sb a m b) W fun e w' => e = .returned (.tuple #[]) ∧ ∃ c : Array α, c.size = n ∧ PermIn a b d c ∧ Srt lt pos c a b ∧ SW enc W blk off c w'
  | 0, _, _, _, a, m, b, hf, h1, h2, _, _, _, _ => by omega
  | f + 1, W, d, E, a, m, b, hf, h1, h2, hb, s1, s2, hx => by
    by_cases q1 : m = a + 1
    · subst q1
      have h := symOne_c (pos := pos) hO E a b h2 hb s2 hx
      unfold symArgs
      rw [Int.natCast_add]; exact h
    · by_cases q2 : b = m + 1
      · subst q2
        have h := symTwo_c (pos := pos) hO E a m (by omega) hb s1 hx
        unfold symArgs
        rw [show ((m + 1 : Nat) : Int) = (m : Int) + 1 by omega]; exact h
      · by_cases q3 : (a + b) / 2 < m
        · exact symGt_c hO E a m b (by omega) (by omega) hb q3 s1 s2 hx (fun W' d' E' a' m' b' hl => symMerge_c hO f W' d' E' a' m' b' (by omega))
        · exact symLe_c hO E a m b (by omega) (by omega) hb (by omega) s1 s2 hx (fun W' d' E' a' m' b' hl => symMerge_c hO f W' d' E' a' m' b' (by omega))

end Go.Proofs.Ytcdpgdpabmlpdaa
