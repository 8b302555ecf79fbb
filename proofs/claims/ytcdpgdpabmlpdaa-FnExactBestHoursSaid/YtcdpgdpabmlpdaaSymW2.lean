/- The library's merging in place, walked: the merge. -/
import Derived.Test.YtcdpgdpabmlpdaaSymW
namespace Go.Proofs.Ytcdpgdpabmlpdaa
open Go.RowKit Go.Sort Go.Lib Go.Shelf

set_option maxHeartbeats 4000000 in
set_option maxRecDepth 100000 in
theorem symOne_c {α : Type} [Inhabited α] {enc : α → Value} {lt : α → α → Bool} {pos : α → Int} (hO : SWO lt) {g : Nat} {lb : Array Value} {sf : Nat} {sb : Array Value} {blk off n : Nat} {W : World} {d : Array α} (E : SEnv enc lt g lb sf sb blk off n W d) (a b : Nat) (hmb : a + 1 < b) (hb : b ≤ n)
    (h2 : Srt lt pos d (a + 1) b) (hx : Crs pos d a (a + 1) b) :
    Calls Try.prog 51 #[.agg #[.func (.func g) #[] lb, .func (.func sf) #[] sb], .int .i64 a, .int .i64 ((a : Int) + 1), .int .i64 b] W fun e w' => e = .returned (.tuple #[]) ∧ ∃ c : Array α, c.size = n ∧ PermIn a b d c ∧ Srt lt pos c a b ∧ SW enc W blk off c w' := by
  obtain ⟨W1, hW1⟩ : ∃ W1, W1 = W.alloc (.cells #[.func (.func g) #[] lb, .func (.func sf) #[] sb] 57) := ⟨_, rfl⟩
  have E1 : SEnv enc lt g lb sf sb blk off n W1 d := by rw [hW1]; exact E.alloc _
  have b0 : W1.cell? ⟨W.heap.size, 0, none⟩ = some (.func (.func g) #[] lb) := by rw [hW1]; simp
  have b1 : W1.cell? ⟨W.heap.size, 1, none⟩ = some (.func (.func sf) #[] sb) := by rw [hW1]; simp
  have hs1 : W.heap.size < W1.heap.size := by rw [hW1]; simp
  have eg := E.eg
  have hlt := E.lt
  have hsm := E.small
  have HD := Lib.hid E.size
  have HE := Lib.hid E1
  have HW1 := Lib.hid hW1
  have H2 := Lib.hid h2
  have HX := Lib.hid (show ∀ j, a + 1 ≤ j → j < b → pos d[a]! < pos d[j]! from fun j p q => hx a j (Nat.le_refl _) (by omega) p q)
  have e1 : ((a : Int) + 1 - (a : Int)) = 1 := by omega
  clear E E1 hW1 h2 hx
  go_enter Try.func51, Try.ntmps51
  go_wp2
  rw [← HW1.out]
  go_loopw [8, 9] (fun vi vj wr => ∃ (i j : Nat), vi = .int .i64 (i : Int) ∧ vj = .int .i64 (j : Int) ∧ a + 1 ≤ i ∧ i ≤ j ∧ j ≤ b ∧ Hid (∀ x, a + 1 ≤ x → x < i → lt d[x]! d[a]! = true) ∧ Hid (∀ x, j ≤ x → x < b → lt d[x]! d[a]! = false) ∧ SW enc W1 blk off d wr) (fun vi vj _ => (intOf vj).toNat - (intOf vi).toNat)
  case atStart => exact ⟨a + 1, b, by congr 1, rfl, by omega, by omega, by omega, fun x p q => by omega, fun x p q => by omega, HE.out.start⟩
  case round =>
    obtain ⟨i, j, rfl, rfl, hai, hij, hjb, hu, hd, hs⟩ := hrel
    have c0 : wr.cell? ⟨W.heap.size, 0, none⟩ = some (.func (.func g) #[] lb) := (sw_cell hs hs1 (by show W.heap.size ≠ blk; omega)).trans b0
    have HS := Lib.hid hs
    clear hs
    by_cases hlt2 : i < j
    · have hc := HE.out.ls HS.out HD.out ((i + j) / 2) a (by omega) (by omega)
      rw [show (((i + j) / 2 : Nat) : Int) = ((i : Int) + (j : Int)) / 2 by omega] at hc
      cases hl : lt d[(i + j) / 2]! d[a]! <;> rw [hl] at hc
      · have HL := Lib.hid (find_down hO H2.out (show a + 1 ≤ (i + j) / 2 by omega) hl)
        have HC := Lib.hid hc
        clear hc hl
        go_wp2_with (go_at_fn g; refine HC.out.mono ?_; rintro e w2 ⟨rfl, hs2⟩; have HS2 := Lib.hid hs2; clear hs2)
        go_roundw
        case rel => exact ⟨i, (i + j) / 2, rfl, by congr 1 <;> omega, hai, by omega, by omega, hu, HL.out, HS2.out⟩
        case measure => simp [intOf]; omega
      · have HL := Lib.hid (find_up hO H2.out (show (i + j) / 2 < b by omega) hl)
        have HC := Lib.hid hc
        clear hc hl
        go_wp2_with (go_at_fn g; refine HC.out.mono ?_; rintro e w2 ⟨rfl, hs2⟩; have HS2 := Lib.hid hs2; clear hs2)
        go_roundw
        case rel => exact ⟨(i + j) / 2 + 1, j, by congr 1 <;> omega, rfl, by omega, by omega, by omega, HL.out, hd, HS2.out⟩
        case measure => simp [intOf]; omega
    · obtain rfl : i = j := by omega
      have HU := Lib.hid hu.out
      clear hu
      go_wp2
      go_loopw [11] (fun vk wr => ∃ (k : Nat) (c : Array α), vk = .int .i64 (k : Int) ∧ a ≤ k ∧ k + 1 ≤ i ∧ Hid (c.size = n) ∧ Hid (∀ q, c[q]! = mvR (fun y => d[y]!) a k q) ∧ Hid (PermIn a b d c) ∧ SW enc W1 blk off c wr) (fun vk _ => i - (intOf vk).toNat)
      case atStart => exact ⟨a, d, rfl, by omega, by omega, HD.out, fun q => (mvR_zero _ a q).symm, permIn_refl _ _ _, HS.out⟩
      case round =>
        obtain ⟨k, c, rfl, hak, hki, hsz, hv, hp, hs⟩ := hrel
        have c1 : wr.cell? ⟨W.heap.size, 1, none⟩ = some (.func (.func sf) #[] sb) := (sw_cell hs hs1 (by show W.heap.size ≠ blk; omega)).trans b1
        by_cases hk : k + 1 < i
        · obtain ⟨w2, hsw, hs2⟩ := HE.out.swp hs hsz.out k (k + 1) (by omega) (by omega)
          have HV := Lib.hid (mvR_step hak (by rw [HD.out]; omega) (hsz.out.trans HD.out.symm) hv.out)
          have HP := Lib.hid (permIn_trans _ _ _ a b hp.out (swp_permIn c a b k (k + 1) (by omega) (by omega) (by omega) (by omega) (by rw [hsz.out]; exact hb)))
          have HZ := Lib.hid (show (Sort.swp c k (k + 1)).size = n by rw [Sort.size_swp]; exact hsz.out)
          rw [show ((k + 1 : Nat) : Int) = (k : Int) + 1 by omega] at hsw
          have HSW := Lib.hid hsw
          have HS2 := Lib.hid hs2
          clear hs hv hp hsz hsw hs2
          go_wp2
          rw [HSW.out, Oper.upon_value]
          go_wp2
          go_roundw
          case rel => exact ⟨k + 1, _, by go_num, by omega, by omega, HZ.out, HV.out, HP.out, HS2.out⟩
          case measure => simp [intOf]; omega
        · obtain rfl : i = k + 1 := by omega
          have HR := Lib.hid (show ∃ c : Array α, c.size = n ∧ PermIn a b d c ∧ Srt lt pos c a b ∧ SW enc W blk off c wr from
            ⟨c, hsz.out, hp.out, mvR_srt hO hai hjb hv.out H2.out HX.out HU.out hd.out, sw_of_alloc (HW1.out ▸ hs) hlt⟩)
          clear hs hv hp hsz
          go_wp2
          refine bodyPost_ret (results_none rfl _ _ _) rfl ?_
          exact ⟨rfl, HR.out⟩

set_option maxHeartbeats 4000000 in
set_option maxRecDepth 100000 in
theorem symTwo_c {α : Type} [Inhabited α] {enc : α → Value} {lt : α → α → Bool} {pos : α → Int} (hO : SWO lt) {g : Nat} {lb : Array Value} {sf : Nat} {sb : Array Value} {blk off n : Nat} {W : World} {d : Array α} (E : SEnv enc lt g lb sf sb blk off n W d) (a m : Nat) (ham : a + 1 < m) (hb : m + 1 ≤ n)
    (h1 : Srt lt pos d a m) (hx : Crs pos d a m (m + 1)) :
    Calls Try.prog 51 #[.agg #[.func (.func g) #[] lb, .func (.func sf) #[] sb], .int .i64 a, .int .i64 m, .int .i64 ((m : Int) + 1)] W fun e w' => e = .returned (.tuple #[]) ∧ ∃ c : Array α, c.size = n ∧ PermIn a (m + 1) d c ∧ Srt lt pos c a (m + 1) ∧ SW enc W blk off c w' := by
  obtain ⟨W1, hW1⟩ : ∃ W1, W1 = W.alloc (.cells #[.func (.func g) #[] lb, .func (.func sf) #[] sb] 57) := ⟨_, rfl⟩
  have E1 : SEnv enc lt g lb sf sb blk off n W1 d := by rw [hW1]; exact E.alloc _
  have b0 : W1.cell? ⟨W.heap.size, 0, none⟩ = some (.func (.func g) #[] lb) := by rw [hW1]; simp
  have b1 : W1.cell? ⟨W.heap.size, 1, none⟩ = some (.func (.func sf) #[] sb) := by rw [hW1]; simp
  have hs1 : W.heap.size < W1.heap.size := by rw [hW1]; simp
  have eg := E.eg
  have hlt := E.lt
  have hsm := E.small
  have HD := Lib.hid E.size
  have HE := Lib.hid E1
  have HW1 := Lib.hid hW1
  have H2 := Lib.hid h1
  have HX := Lib.hid (show ∀ j, a ≤ j → j < m → pos d[j]! < pos d[m]! from fun j p q => hx j m p q (Nat.le_refl _) (by omega))
  have e1 : ((m : Int) + 1 - (m : Int)) = 1 := by omega
  have e2 : ((m : Int) - (a : Int) == 1) = false := beq_eq_false_iff_ne.2 (by omega)
  clear E E1 hW1 h1 hx
  go_enter Try.func51, Try.ntmps51
  go_wp2
  rw [← HW1.out]
  go_loopw [12, 13] (fun vi vj wr => ∃ (i j : Nat), vi = .int .i64 (i : Int) ∧ vj = .int .i64 (j : Int) ∧ a ≤ i ∧ i ≤ j ∧ j ≤ m ∧ Hid (∀ x, a ≤ x → x < i → lt d[m]! d[x]! = false) ∧ Hid (∀ x, j ≤ x → x < m → lt d[m]! d[x]! = true) ∧ SW enc W1 blk off d wr) (fun vi vj _ => (intOf vj).toNat - (intOf vi).toNat)
  case atStart => exact ⟨a, m, rfl, rfl, by omega, by omega, by omega, fun x p q => by omega, fun x p q => by omega, HE.out.start⟩
  case round =>
    obtain ⟨i, j, rfl, rfl, hai, hij, hjb, hu, hd, hs⟩ := hrel
    have c0 : wr.cell? ⟨W.heap.size, 0, none⟩ = some (.func (.func g) #[] lb) := (sw_cell hs hs1 (by show W.heap.size ≠ blk; omega)).trans b0
    have HS := Lib.hid hs
    clear hs
    by_cases hlt2 : i < j
    · have hc := HE.out.ls HS.out HD.out m ((i + j) / 2) (by omega) (by omega)
      rw [show (((i + j) / 2 : Nat) : Int) = ((i : Int) + (j : Int)) / 2 by omega] at hc
      cases hl : lt d[m]! d[(i + j) / 2]! <;> rw [hl] at hc
      · have HL := Lib.hid (find2_up hO H2.out (show (i + j) / 2 < m by omega) hl)
        have HC := Lib.hid hc
        clear hc hl
        go_wp2_with (go_at_fn g; refine HC.out.mono ?_; rintro e w2 ⟨rfl, hs2⟩; have HS2 := Lib.hid hs2; clear hs2)
        go_roundw
        case rel => exact ⟨(i + j) / 2 + 1, j, by congr 1 <;> omega, rfl, by omega, by omega, by omega, HL.out, hd, HS2.out⟩
        case measure => simp [intOf]; omega
      · have HL := Lib.hid (find2_down hO H2.out (show a ≤ (i + j) / 2 by omega) hl)
        have HC := Lib.hid hc
        clear hc hl
        go_wp2_with (go_at_fn g; refine HC.out.mono ?_; rintro e w2 ⟨rfl, hs2⟩; have HS2 := Lib.hid hs2; clear hs2)
        go_roundw
        case rel => exact ⟨i, (i + j) / 2, rfl, by congr 1 <;> omega, hai, by omega, by omega, hu, HL.out, HS2.out⟩
        case measure => simp [intOf]; omega
    · obtain rfl : i = j := by omega
      have HU := Lib.hid hu.out
      clear hu
      go_wp2
      go_loopw [15] (fun vk wr => ∃ (k : Nat) (c : Array α), vk = .int .i64 (k : Int) ∧ i ≤ k ∧ k ≤ m ∧ Hid (c.size = n) ∧ Hid (∀ q, c[q]! = mvL (fun y => d[y]!) m k q) ∧ Hid (PermIn a (m + 1) d c) ∧ SW enc W1 blk off c wr) (fun vk _ => (intOf vk).toNat)
      case atStart => exact ⟨m, d, rfl, by omega, by omega, HD.out, fun q => (mvL_zero _ m q).symm, permIn_refl _ _ _, HS.out⟩
      case round =>
        obtain ⟨k, c, rfl, hak, hki, hsz, hv, hp, hs⟩ := hrel
        have c1 : wr.cell? ⟨W.heap.size, 1, none⟩ = some (.func (.func sf) #[] sb) := (sw_cell hs hs1 (by show W.heap.size ≠ blk; omega)).trans b1
        by_cases hk : i < k
        · obtain ⟨w2, hsw, hs2⟩ := HE.out.swp hs hsz.out k (k - 1) (by omega) (by omega)
          have HV := Lib.hid (mvL_step (by omega) hki (by rw [HD.out]; omega) (hsz.out.trans HD.out.symm) hv.out)
          have HP := Lib.hid (permIn_trans _ _ _ a (m + 1) hp.out (swp_permIn c a (m + 1) k (k - 1) (by omega) (by omega) (by omega) (by omega) (by rw [hsz.out]; exact hb)))
          have HZ := Lib.hid (show (Sort.swp c k (k - 1)).size = n by rw [Sort.size_swp]; exact hsz.out)
          rw [show ((k - 1 : Nat) : Int) = (k : Int) - 1 by omega] at hsw
          have HSW := Lib.hid hsw
          have HS2 := Lib.hid hs2
          clear hs hv hp hsz hsw hs2
          go_wp2
          rw [HSW.out, Oper.upon_value]
          go_wp2
          go_roundw
          case rel => exact ⟨k - 1, _, by congr 1 <;> omega, by omega, by omega, HZ.out, HV.out, HP.out, HS2.out⟩
          case measure => simp [intOf]; omega
        · obtain rfl : i = k := by omega
          have HR := Lib.hid (show ∃ c : Array α, c.size = n ∧ PermIn a (m + 1) d c ∧ Srt lt pos c a (m + 1) ∧ SW enc W blk off c wr from
            ⟨c, hsz.out, hp.out, mvL_srt hO hai hki hv.out H2.out HX.out HU.out hd.out, sw_of_alloc (HW1.out ▸ hs) hlt⟩)
          clear hs hv hp hsz
          go_wp2
          refine bodyPost_ret (results_none rfl _ _ _) rfl ?_
          exact ⟨rfl, HR.out⟩

end Go.Proofs.Ytcdpgdpabmlpdaa
