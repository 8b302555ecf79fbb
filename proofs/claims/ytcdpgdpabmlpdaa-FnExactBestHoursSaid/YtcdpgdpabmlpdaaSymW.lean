/- The library's merging in place, walked. -/
import Derived.Test.YtcdpgdpabmlpdaaSym
import Derived.Test.YtcdpgdpabmlpdaaBase
import Derived.Test.YtcdpgdpabmlpdaaShelf
namespace Go.Proofs.Ytcdpgdpabmlpdaa
open Go.RowKit Go.Sort Go.Lib Go.Shelf

section
variable {α : Type} [Inhabited α] {enc : α → Value} {w0 W : World} {blk off : Nat} {d : Array α}
theorem sw_cell (h : SW enc w0 blk off d W) {p : Addr} (hp : p.block < w0.heap.size) (hne : p.block ≠ blk) : W.cell? p = w0.cell? p := by
  obtain ⟨n, os, rfl⟩ := h
  unfold sortWorld
  rw [cell?_grow _ _ _ (by rw [size_putRow]; exact hp), cell?_putRow_other _ _ _ _ _ _ (.inl hne)]
  rfl
theorem sw_of_alloc {o : Obj} (h : SW enc (w0.alloc o) blk off d W) (hblk : blk < w0.heap.size) : SW enc w0 blk off d W := by
  obtain ⟨n, os, rfl⟩ := h
  exact ⟨n, _, sortWorld_alloc enc w0 _ blk off n _ os hblk⟩
theorem sw_trans {c : Array α} {w' : World} (h : SW enc w0 blk off d W) (h2 : SW enc W blk off c w') (hblk : blk < w0.heap.size) (hs : c.size = d.size) : SW enc w0 blk off c w' := by
  obtain ⟨n, os, rfl⟩ := h2
  exact h.on hblk n c os hs
/-- what the library's sorting wants of the world, of 'less' and of 'swap' -/
structure SEnv (enc : α → Value) (lt : α → α → Bool) (g : Nat) (lb : Array Value) (sf : Nat) (sb : Array Value) (blk off n : Nat) (W : World) (d : Array α) : Prop where
  eg : ∀ args w, (callFunc g args).run Try.prog w = .ok (.enter g args) w
  less : LessReads Try.prog g lb enc lt blk off n W
  swap : SwapSwaps Try.prog sf sb enc blk off n
  holds : Holds enc W blk off d
  lt : blk < W.heap.size
  size : d.size = n
  small : n ≤ 1000000
variable {lt : α → α → Bool} {g : Nat} {lb : Array Value} {sf : Nat} {sb : Array Value} {n : Nat}
theorem SEnv.on {c : Array α} (E : SEnv enc lt g lb sf sb blk off n w0 d) (h : SW enc w0 blk off c W) (hs : c.size = n) : SEnv enc lt g lb sf sb blk off n W c :=
  ⟨E.eg, h.lessReads E.less E.lt hs, E.swap, h.holds E.lt E.holds (by rw [hs, E.size]), h.lt E.lt, hs, E.small⟩
theorem SEnv.alloc (E : SEnv enc lt g lb sf sb blk off n W d) (o : Obj) : SEnv enc lt g lb sf sb blk off n (W.alloc o) d :=
  E.on ((SW.start E.holds).alloc o) E.size
theorem SEnv.start (E : SEnv enc lt g lb sf sb blk off n W d) : SW enc W blk off d W := SW.start E.holds
/-- 'swap' in a world of the sorting -/
theorem SEnv.swp (E : SEnv enc lt g lb sf sb blk off n w0 d) {c : Array α} (h : SW enc w0 blk off c W) (hs : c.size = n) (i j : Nat) (hi : i < n) (hj : j < n) :
    ∃ w', (callFunc sf (#[.int .i64 i, .int .i64 j] ++ sb)).run Try.prog W = .ok (.value (.tuple #[])) w' ∧ SW enc w0 blk off (Sort.swp c i j) w' :=
  ⟨_, E.swap W c (h.holds E.lt E.holds (by rw [hs, E.size])) hs i j hi hj, h.swap E.lt i j (by omega) (by omega)⟩
theorem SEnv.ls (E : SEnv enc lt g lb sf sb blk off n w0 d) {c : Array α} (h : SW enc w0 blk off c W) (hs : c.size = n) (i j : Nat) (hi : i < n) (hj : j < n) :
    Calls Try.prog g (#[.int .i64 i, .int .i64 j] ++ lb) W fun e w' => e = .returned (.bool (lt c[i]! c[j]!)) ∧ SW enc w0 blk off c w' :=
  (h.less E.less hs i j hi hj).mono fun _ _ ⟨he, q, hq⟩ => ⟨he, by rw [hq]; exact h.drewN q⟩
end

set_option maxHeartbeats 2000000 in
set_option maxRecDepth 100000 in
theorem swapRange_c {α : Type} [Inhabited α] {enc : α → Value} {lt : α → α → Bool} {g : Nat} {lb : Array Value} {sf : Nat} {sb : Array Value} {blk off n : Nat} {W : World} {d : Array α} (E : SEnv enc lt g lb sf sb blk off n W d) (a b k : Nat) (hab : a + k ≤ b) (hb : b + k ≤ n) :
    Calls Try.prog 67 #[.agg #[.func (.func g) #[] lb, .func (.func sf) #[] sb], .int .i64 a, .int .i64 b, .int .i64 k] W fun e w' => e = .returned (.tuple #[]) ∧ ∃ c : Array α, c.size = n ∧ (∀ q, c[q]! = swF (fun x => d[x]!) a b k q) ∧ PermIn a (b + k) d c ∧ SW enc W blk off c w' := by
  obtain ⟨W1, hW1⟩ : ∃ W1, W1 = W.alloc (.cells #[.func (.func g) #[] lb, .func (.func sf) #[] sb] 57) := ⟨_, rfl⟩
  have E1 : SEnv enc lt g lb sf sb blk off n W1 d := by rw [hW1]; exact E.alloc _
  have b1 : W1.cell? ⟨W.heap.size, 1, none⟩ = some (.func (.func sf) #[] sb) := by rw [hW1]; simp
  have hs1 : W.heap.size < W1.heap.size := by rw [hW1]; simp
  have hlt := E.lt
  have hsm := E.small
  have HD := Lib.hid E.size
  have HE := Lib.hid E1
  have HW1 := Lib.hid hW1
  clear E E1 hW1
  go_enter Try.func67, Try.ntmps67
  go_wp2
  rw [← HW1.out]
  go_loopw [8] (fun i wr => ∃ (q : Nat) (c : Array α), q ≤ k ∧ i = .int .i64 (q : Int) ∧ Hid (c.size = n) ∧ Hid (∀ x, c[x]! = swF (fun y => d[y]!) a b q x) ∧ Hid (PermIn a (b + k) d c) ∧ SW enc W1 blk off c wr) (fun i _ => k - (intOf i).toNat)
  case atStart => exact ⟨0, d, by omega, rfl, HD.out, fun x => (sw_zero _ a b x).symm, permIn_refl _ _ _, HE.out.start⟩
  case round =>
    obtain ⟨q, c, hq, rfl, hsz, hv, hp, hs⟩ := hrel
    by_cases hqk : q < k
    · have c1 : wr.cell? ⟨W.heap.size, 1, none⟩ = some (.func (.func sf) #[] sb) := (sw_cell hs hs1 (by show W.heap.size ≠ blk; omega)).trans b1
      obtain ⟨w2, hsw, hs2⟩ := HE.out.swp hs hsz.out (a + q) (b + q) (by omega) (by omega)
      have HV := Lib.hid (sw_step hab hqk (by rw [HD.out]; exact hb) (hsz.out.trans HD.out.symm) hv.out)
      have HP := Lib.hid (permIn_trans _ _ _ a (b + k) hp.out (swp_permIn c a (b + k) (a + q) (b + q) (by omega) (by omega) (by omega) (by omega) (by rw [hsz.out]; exact hb)))
      have HZ := Lib.hid (show (Sort.swp c (a + q) (b + q)).size = n by rw [Sort.size_swp]; exact hsz.out)
      simp only [Int.natCast_add] at hsw
      have HSW := Lib.hid hsw
      have HS2 := Lib.hid hs2
      clear hs hv hp hsz hsw hs2
      go_wp2
      rw [HSW.out, Oper.upon_value]
      go_wp2
      go_roundw
      case rel => exact ⟨q + 1, _, by omega, by go_num, HZ.out, HV.out, HP.out, HS2.out⟩
      case measure => simp [intOf]; omega
    · obtain rfl : q = k := by omega
      have HR := Lib.hid (show ∃ c : Array α, c.size = n ∧ (∀ x, c[x]! = swF (fun y => d[y]!) a b q x) ∧ PermIn a (b + q) d c ∧ SW enc W blk off c wr from ⟨c, hsz.out, hv.out, hp.out, sw_of_alloc (HW1.out ▸ hs) hlt⟩)
      clear hs hv hp hsz
      go_wp2
      go_end0
      exact ⟨rfl, HR.out⟩

set_option maxHeartbeats 4000000 in
set_option maxRecDepth 100000 in
theorem rotate_c {α : Type} [Inhabited α] {enc : α → Value} {lt : α → α → Bool} {g : Nat} {lb : Array Value} {sf : Nat} {sb : Array Value} {blk off n : Nat} {W : World} {d : Array α} (E : SEnv enc lt g lb sf sb blk off n W d) (a m b : Nat) (ham : a < m) (hmb : m < b) (hb : b ≤ n) :
    Calls Try.prog 61 #[.agg #[.func (.func g) #[] lb, .func (.func sf) #[] sb], .int .i64 a, .int .i64 m, .int .i64 b] W fun e w' => e = .returned (.tuple #[]) ∧ ∃ c : Array α, c.size = n ∧ (∀ q, c[q]! = rotF (fun x => d[x]!) a m b q) ∧ PermIn a b d c ∧ SW enc W blk off c w' := by
  obtain ⟨W1, hW1⟩ : ∃ W1, W1 = W.alloc (.cells #[.func (.func g) #[] lb, .func (.func sf) #[] sb] 57) := ⟨_, rfl⟩
  have E1 : SEnv enc lt g lb sf sb blk off n W1 d := by rw [hW1]; exact E.alloc _
  have b0 : W1.cell? ⟨W.heap.size, 0, none⟩ = some (.func (.func g) #[] lb) := by rw [hW1]; simp
  have b1 : W1.cell? ⟨W.heap.size, 1, none⟩ = some (.func (.func sf) #[] sb) := by rw [hW1]; simp
  have hs1 : W.heap.size < W1.heap.size := by rw [hW1]; simp
  have hlt := E.lt
  have hsm := E.small
  have HD := Lib.hid E.size
  have HE := Lib.hid E1
  have HW1 := Lib.hid hW1
  clear E E1 hW1
  obtain ⟨i0, hi0⟩ : ∃ i0 : Nat, i0 = m - a := ⟨_, rfl⟩
  obtain ⟨j0, hj0⟩ : ∃ j0 : Nat, j0 = b - m := ⟨_, rfl⟩
  have e1 : (m : Int) - (a : Int) = (i0 : Int) := by omega
  have e2 : (b : Int) - (m : Int) = (j0 : Int) := by omega
  have HI := Lib.hid hi0
  have HJ := Lib.hid hj0
  clear hi0 hj0
  go_enter Try.func61, Try.ntmps61
  go_wp2
  rw [← HW1.out]
  try rw [e1]
  try rw [e2]
  clear e1 e2
  go_loopw [8, 9] (fun vi vj wr => ∃ (i j : Nat) (c : Array α), vi = .int .i64 (i : Int) ∧ vj = .int .i64 (j : Int) ∧ 0 < i ∧ 0 < j ∧ i + a ≤ m ∧ j + m ≤ b ∧ Hid (c.size = n) ∧ Hid (∀ x, rotF (fun y => c[y]!) (m - i) m (m + j) x = rotF (fun y => d[y]!) a m b x) ∧ Hid (PermIn a b d c) ∧ SW enc W1 blk off c wr) (fun vi vj _ => (intOf vi).toNat + (intOf vj).toNat)
  case atStart =>
    have h1 := HI.out
    have h2 := HJ.out
    refine ⟨i0, j0, d, rfl, rfl, by omega, by omega, by omega, by omega, HD.out, fun x => ?_, permIn_refl _ _ _, HE.out.start⟩
    rw [show m - i0 = a by omega, show m + j0 = b by omega]
  case round =>
    obtain ⟨i, j, c, rfl, rfl, hi, hj, hia, hjb, hsz, hv, hp, hs⟩ := hrel
    have c0 : wr.cell? ⟨W.heap.size, 0, none⟩ = some (.func (.func g) #[] lb) := (sw_cell hs hs1 (by show W.heap.size ≠ blk; omega)).trans b0
    have c1 : wr.cell? ⟨W.heap.size, 1, none⟩ = some (.func (.func sf) #[] sb) := (sw_cell hs hs1 (by show W.heap.size ≠ blk; omega)).trans b1
    have m1 : (m : Int) - (i : Int) = ((m - i : Nat) : Int) := by omega
    have EW := HE.out.on hs hsz.out
    have HS := Lib.hid hs
    clear hs
    by_cases hij : i = j
    · subst hij
      have hc := swapRange_c EW (m - i) m i (by omega) (by omega)
      rw [← m1] at hc
      have HC := Lib.hid hc
      have HM := Lib.hid m1
      clear hc m1 EW
      go_wp2_with fail
      refine HC.out.mono ?_
      rintro e w2 ⟨rfl, c', hz', hv', hp', hs'⟩
      have HR := Lib.hid (show ∃ c : Array α, c.size = n ∧ (∀ q, c[q]! = rotF (fun x => d[x]!) a m b q) ∧ PermIn a b d c ∧ SW enc W blk off c w2 from
        ⟨c', hz', fun q => by rw [hv', rot_last _ (by omega), hv.out], permIn_trans _ _ _ a b hp.out (permIn_mono _ _ (m - i) (m + i) a b (by omega) (by omega) (by rw [hsz.out]; exact hb) hp'), sw_of_alloc (HW1.out ▸ sw_trans HS.out hs' HE.out.lt (by rw [hz', hsz.out])) hlt⟩)
      clear hz' hv' hp' hs'
      go_wp2
      go_end0
      exact ⟨rfl, HR.out⟩
    · by_cases hgt : j < i
      · have hc := swapRange_c EW (m - i) m j (by omega) (by omega)
        rw [← m1] at hc
        have HC := Lib.hid hc
        have HM := Lib.hid m1
        clear hc m1 EW
        go_wp2_with fail
        refine HC.out.mono ?_
        rintro e w2 ⟨rfl, c', hz', hv', hp', hs'⟩
        have HZ := Lib.hid hz'
        have HV := Lib.hid (show ∀ x, rotF (fun y => c'[y]!) (m - (i - j)) m (m + j) x = rotF (fun y => d[y]!) a m b x from fun x => by
          rw [show (fun y => c'[y]!) = swF (fun y => c[y]!) (m - i) m j from funext hv', rot_left _ (by omega) hgt, hv.out])
        have HP := Lib.hid (permIn_trans _ _ _ a b hp.out (permIn_mono _ _ (m - i) (m + j) a b (by omega) (by omega) (by rw [hsz.out]; exact hb) hp'))
        have HS2 := Lib.hid (sw_trans HS.out hs' HE.out.lt (by rw [hz', hsz.out]))
        clear hz' hv' hp' hs'
        go_wp2
        go_roundw
        case rel => exact ⟨i - j, j, c', by congr 1; omega, rfl, by omega, hj, by omega, by omega, HZ.out, HV.out, HP.out, HS2.out⟩
        case measure => simp [intOf]; omega
      · have hc := swapRange_c EW (m - i) (m + j - i) i (by omega) (by omega)
        rw [← m1, show ((m + j - i : Nat) : Int) = (m : Int) + (j : Int) - (i : Int) by omega] at hc
        have HC := Lib.hid hc
        have HM := Lib.hid m1
        clear hc m1 EW
        go_wp2_with fail
        refine HC.out.mono ?_
        rintro e w2 ⟨rfl, c', hz', hv', hp', hs'⟩
        have HZ := Lib.hid hz'
        have HV := Lib.hid (show ∀ x, rotF (fun y => c'[y]!) (m - i) m (m + (j - i)) x = rotF (fun y => d[y]!) a m b x from fun x => by
          rw [show (fun y => c'[y]!) = swF (fun y => c[y]!) (m - i) (m + j - i) i from funext hv', rot_right _ (by omega) (by omega), hv.out])
        have HP := Lib.hid (permIn_trans _ _ _ a b hp.out (permIn_mono _ _ (m - i) (m + j - i + i) a b (by omega) (by omega) (by rw [hsz.out]; exact hb) hp'))
        have HS2 := Lib.hid (sw_trans HS.out hs' HE.out.lt (by rw [hz', hsz.out]))
        clear hz' hv' hp' hs'
        go_wp2
        go_roundw
        case rel => exact ⟨i, j - i, c', rfl, by congr 1; omega, hi, by omega, hia, by omega, HZ.out, HV.out, HP.out, HS2.out⟩
        case measure => simp [intOf]; omega

end Go.Proofs.Ytcdpgdpabmlpdaa
