/- The library's stable sorting, walked. -/
import Derived.Test.YtcdpgdpabmlpdaaSymW3
namespace Go.Proofs.Ytcdpgdpabmlpdaa
open Go.RowKit Go.Sort Go.Lib Go.Shelf

theorem ins_c {α : Type} [Inhabited α] {enc : α → Value} {lt : α → α → Bool} {g : Nat} {lb : Array Value} {sf : Nat} {sb : Array Value} {blk off n : Nat} {W : World} {d : Array α} (E : SEnv enc lt g lb sf sb blk off n W d) (a b : Nat) (hab : a ≤ b) (hb : b ≤ n) :
    Calls Try.prog 50 #[.agg #[.func (.func g) #[] lb, .func (.func sf) #[] sb], .int .i64 a, .int .i64 b] W fun e w' => e = .returned (.tuple #[]) ∧ SW enc W blk off (Sort.insertionSort lt d a b) w' := by
  have hs := E.size
  have hsm := E.small
  exact Try.insertionSort_func_w enc lt g lb sf sb blk off a b d W E.eg (by rw [hs]; exact E.less) (by rw [hs]; exact E.swap) E.holds E.lt hab (by rw [hs]; exact hb) (by omega)
theorem blk_done {α : Type} [Inhabited α] {lt : α → α → Bool} {pos : α → Int} {d c : Array α} {bs n a : Nat} (hd : Done lt pos d bs n a) (hp : PermIn a n d c) (hn : n ≤ a + bs) (hs : Srt lt pos c a n) : Blks lt pos c bs n 0 := hd c hp (.last hn hs)
set_option maxHeartbeats 8000000 in
set_option maxRecDepth 100000 in
theorem stable_c {α : Type} [Inhabited α] {enc : α → Value} {lt : α → α → Bool} {pos : α → Int} (hO : SWO lt) {g : Nat} {lb : Array Value} {sf : Nat} {sb : Array Value} {blk off n : Nat} {W : World} {d : Array α} (E : SEnv enc lt g lb sf sb blk off n W d)
    (hx : ∀ k l, k < l → l < n → pos d[k]! < pos d[l]!) :
    Calls Try.prog 35 #[.agg #[.func (.func g) #[] lb, .func (.func sf) #[] sb], .int .i64 n] W fun e w' => e = .returned (.tuple #[]) ∧ ∃ c : Array α, c.size = n ∧ PermIn 0 n d c ∧ Srt lt pos c 0 n ∧ SW enc W blk off c w' := by
  obtain ⟨W1, hW1⟩ : ∃ W1, W1 = W.alloc (.cells #[.func (.func g) #[] lb, .func (.func sf) #[] sb] 57) := ⟨_, rfl⟩
  have E1 : SEnv enc lt g lb sf sb blk off n W1 d := by rw [hW1]; exact E.alloc _
  have b0 : W1.cell? ⟨W.heap.size, 0, none⟩ = some (.func (.func g) #[] lb) := by rw [hW1]; simp
  have b1 : W1.cell? ⟨W.heap.size, 1, none⟩ = some (.func (.func sf) #[] sb) := by rw [hW1]; simp
  have hs1 : W.heap.size < W1.heap.size := by rw [hW1]; simp
  have hlt := E.lt
  have hsm := E.small
  have HD := Lib.hid E.size
  have HE := Lib.hid E1
  have HW1 := Lib.hid hW1
  have HX := Lib.hid hx
  clear E E1 hW1 hx
  go_enter Try.func35, Try.ntmps35
  go_wp2
  rw [← HW1.out]
  go_loopw [5, 6] (fun va vb wr => ∃ (a : Nat) (c : Array α), va = .int .i64 (a : Int) ∧ vb = .int .i64 ((a : Int) + 20) ∧ a ≤ n ∧ Hid (c.size = n) ∧ Hid (PermIn 0 n d c) ∧ Hid (∀ k l, a ≤ k → k < l → l < n → pos c[k]! < pos c[l]!) ∧ Hid (Done lt pos c 20 n a) ∧ SW enc W1 blk off c wr) (fun va _ _ => n - (intOf va).toNat)
  case atStart => exact ⟨0, d, rfl, by simp, by omega, HD.out, permIn_refl _ _ _, fun k l _ p q => HX.out k l p q, done_zero _ _ _, HE.out.start⟩
  case round =>
    obtain ⟨a, c, rfl, rfl, han, hsz, hp, hraw, hdn, hs⟩ := hrel
    have c0 : wr.cell? ⟨W.heap.size, 0, none⟩ = some (.func (.func g) #[] lb) := (sw_cell hs hs1 (by show W.heap.size ≠ blk; omega)).trans b0
    have c1 : wr.cell? ⟨W.heap.size, 1, none⟩ = some (.func (.func sf) #[] sb) := (sw_cell hs hs1 (by show W.heap.size ≠ blk; omega)).trans b1
    have HS := Lib.hid hs
    clear hs
    by_cases hab : a + 20 ≤ n
    · have hab2 : (a : Int) + 20 ≤ (n : Int) := by omega
      have hc := ins_c (HE.out.on HS.out hsz.out) a (a + 20) (by omega) hab
      obtain ⟨i1, i2⟩ := ins_srt (pos := pos) hO c a (a + 20) (by omega) (by rw [hsz.out]; exact hab) (fun k l p q r => hraw.out k l p q (by omega))
      rw [show ((a + 20 : Nat) : Int) = (a : Int) + 20 by omega] at hc
      have HC := Lib.hid hc
      have HZ := Lib.hid (show (Sort.insertionSort lt c a (a + 20)).size = n by rw [i1.1]; exact hsz.out)
      have HP := Lib.hid (permIn_trans _ _ _ 0 n hp.out (permIn_mono _ _ a (a + 20) 0 n (by omega) hab (by rw [hsz.out]; exact Nat.le_refl _) i1))
      have HR := Lib.hid (show ∀ k l, a + 20 ≤ k → k < l → l < n → pos (Sort.insertionSort lt c a (a + 20))[k]! < pos (Sort.insertionSort lt c a (a + 20))[l]! from fun k l p q r => by
        rw [i1.2.1 k (.inr p), i1.2.1 l (.inr (by omega))]; exact hraw.out k l (by omega) q r)
      have HN := Lib.hid (done_step hdn.out hab (by rw [hsz.out]; exact Nat.le_refl _) (fun i j p q r s => hraw.out i j p (by omega) s) i1 i2)
      clear hc i1 i2
      generalize Sort.insertionSort lt c a (a + 20) = c' at *
      go_wp2_with fail
      refine HC.out.mono ?_
      rintro e w2 ⟨rfl, hs2⟩
      have HS2 := Lib.hid (sw_trans HS.out hs2 HE.out.lt (by rw [HZ.out, hsz.out]))
      clear hs2
      go_wp2
      go_roundw
      case rel => exact ⟨a + 20, c', by congr 1 <;> omega, by congr 1 <;> omega, hab, HZ.out, HP.out, HR.out, HN.out, HS2.out⟩
      case measure => simp [intOf]; omega
    · have hab2 : ¬ (a : Int) + 20 ≤ (n : Int) := by omega
      have hc := ins_c (HE.out.on HS.out hsz.out) a n han (Nat.le_refl _)
      obtain ⟨i1, i2⟩ := ins_srt (pos := pos) hO c a n han (by rw [hsz.out]; exact Nat.le_refl _) (fun k l p q r => hraw.out k l p q r)
      have HC := Lib.hid hc
      have HZ := Lib.hid (show (Sort.insertionSort lt c a n).size = n by rw [i1.1]; exact hsz.out)
      have HP := Lib.hid (permIn_trans _ _ _ 0 n hp.out (permIn_mono _ _ a n 0 n (by omega) (Nat.le_refl _) (by rw [hsz.out]; exact Nat.le_refl _) i1))
      have HN := Lib.hid (blk_done hdn.out i1 (by omega) i2)
      have HZC := Lib.hid hsz.out
      clear hc i1 i2 hp hraw hdn hsz
      generalize Sort.insertionSort lt c a n = c' at *
      go_wp2_with fail
      refine HC.out.mono ?_
      rintro e w2 ⟨rfl, hs2⟩
      have HS2 := Lib.hid (sw_trans HS.out hs2 HE.out.lt (by rw [HZ.out, HZC.out]))
      clear hs2 HC HS c0 c1 HZC
      go_wp2
      clear hab hab2 han
      go_loopw [4] (fun vb wr => ∃ (bs : Nat) (c : Array α), vb = .int .i64 (bs : Int) ∧ 0 < bs ∧ bs ≤ 2000000 ∧ Hid (c.size = n) ∧ Hid (PermIn 0 n d c) ∧ Hid (Blks lt pos c bs n 0) ∧ SW enc W1 blk off c wr) (fun vb _ => n - (intOf vb).toNat)
      case atStart => exact ⟨20, c', rfl, by omega, by omega, HZ.out, HP.out, HN.out, HS2.out⟩
      case round =>
        clear HZ HP HN HS2
        obtain ⟨bs, co, rfl, hbs, hbb, hsz, hp, hbl, hs⟩ := hrel
        have HSO := Lib.hid hs
        clear hs
        by_cases hbn : bs < n
        · have bw1 : IntKind.i64.wrap (2 * (bs : Int)) = 2 * (bs : Int) := by rw [IntWalk.i64_in _ (by omega)]
          go_wp2
          obtain ⟨wo, hwo⟩ : ∃ wo : World, wo = wr := ⟨_, rfl⟩
          subst hwo
          go_loopw [5, 6] (fun va vb wr => ∃ (a : Nat) (c : Array α), va = .int .i64 (a : Int) ∧ vb = .int .i64 ((a : Int) + 2 * (bs : Int)) ∧ a ≤ n ∧ Hid (c.size = n) ∧ Hid (PermIn 0 n d c) ∧ Hid (Blks lt pos c bs n a) ∧ Hid (Done lt pos c (2 * bs) n a) ∧ SW enc W1 blk off c wr) (fun va _ _ => n - (intOf va).toNat)
          case atStart => exact ⟨0, co, rfl, by simp, by omega, hsz.out, hp.out, hbl.out, done_zero _ _ _, HSO.out⟩
          case round =>
            clear hsz hp hbl HSO
            obtain ⟨a, c, rfl, rfl, han, hsz, hp, hbl, hdn, hs⟩ := hrel
            have c0 : wr.cell? ⟨W.heap.size, 0, none⟩ = some (.func (.func g) #[] lb) := (sw_cell hs hs1 (by show W.heap.size ≠ blk; omega)).trans b0
            have c1 : wr.cell? ⟨W.heap.size, 1, none⟩ = some (.func (.func sf) #[] sb) := (sw_cell hs hs1 (by show W.heap.size ≠ blk; omega)).trans b1
            have HS := Lib.hid hs
            clear hs
            by_cases hab : a + 2 * bs ≤ n
            · have hab2 : (a : Int) + 2 * (bs : Int) ≤ (n : Int) := by omega
              obtain ⟨s1, s2, x1, hr⟩ := blks_two hbl.out hbs hab
              have hx2 : Crs pos c a (a + 2 * bs) n := fun i j p q r s => by
                by_cases hi : i < a + bs
                · exact x1 i j p hi (by omega) s
                · exact (hr (by omega)).1 i j (by omega) q r s
              have hc := symMerge_c hO (2 * bs) wr c (HE.out.on HS.out hsz.out) a (a + bs) (a + 2 * bs) (by omega) (by omega) (by omega) hab s1 s2 (fun i j p q r s => x1 i j p q r (by omega))
              unfold symArgs at hc
              rw [show ((a + 2 * bs : Nat) : Int) = (a : Int) + 2 * (bs : Int) by omega, show ((a + bs : Nat) : Int) = (a : Int) + (bs : Int) by omega] at hc
              have HC := Lib.hid hc
              have HX2 := Lib.hid hx2
              have HRR := Lib.hid hr
              have HBB := Lib.hid hbl.out
              clear hc s1 s2 x1 hr hx2 hbl
              go_wp2_with fail
              refine HC.out.mono ?_
              rintro e w2 ⟨rfl, c', hz, hpm, hst, hs2⟩
              have HZ := Lib.hid hz
              have HP := Lib.hid (permIn_trans _ _ _ 0 n hp.out (permIn_mono _ _ a (a + 2 * bs) 0 n (by omega) hab (by rw [hsz.out]; exact Nat.le_refl _) hpm))
              have HN := Lib.hid (done_step hdn.out hab (by rw [hsz.out]; exact Nat.le_refl _) HX2.out hpm hst)
              have HB2 := Lib.hid (show Blks lt pos c' bs n (a + 2 * bs) by
                by_cases hq : a + 2 * bs < n
                · exact blks_keep hpm (HRR.out hq).2 (Nat.le_refl _)
                · exact .last (by omega) (fun i j p q r => by omega))
              have HS2 := Lib.hid (sw_trans HS.out hs2 HE.out.lt (by rw [hz, hsz.out]))
              clear hz hpm hst hs2 HC
              go_wp2
              go_roundw
              case rel => exact ⟨a + 2 * bs, c', by congr 1 <;> omega, by congr 1 <;> omega, hab, HZ.out, HP.out, HB2.out, HN.out, HS2.out⟩
              case measure => simp [intOf]; omega
            · have hab2 : ¬ (a : Int) + 2 * (bs : Int) ≤ (n : Int) := by omega
              by_cases hmn : a + bs < n
              · have hmn2 : (a : Int) + (bs : Int) < (n : Int) := by omega
                obtain ⟨s1, x1, hr⟩ := blks_one hbl.out hmn
                have hc := symMerge_c hO n wr c (HE.out.on HS.out hsz.out) a (a + bs) n (by omega) (by omega) hmn (Nat.le_refl _) s1 (hr (by omega)) x1
                unfold symArgs at hc
                rw [show ((a + bs : Nat) : Int) = (a : Int) + (bs : Int) by omega] at hc
                have HC := Lib.hid hc
                clear hc s1 x1 hr hbl
                go_wp2_with fail
                refine HC.out.mono ?_
                rintro e w2 ⟨rfl, c', hz, hpm, hst, hs2⟩
                have HZ := Lib.hid hz
                have HP := Lib.hid (permIn_trans _ _ _ 0 n hp.out (permIn_mono _ _ a n 0 n (by omega) (Nat.le_refl _) (by rw [hsz.out]; exact Nat.le_refl _) hpm))
                have HN := Lib.hid (blk_done hdn.out hpm (by omega) hst)
                have HS2 := Lib.hid (sw_trans HS.out hs2 HE.out.lt (by rw [hz, hsz.out]))
                clear hz hpm hst hs2 HC
                go_wp2
                go_roundw
                case rel => exact ⟨2 * bs, c', by congr 1 <;> omega, by omega, by omega, HZ.out, HP.out, HN.out, HS2.out⟩
                case measure => simp [intOf]; omega
              · have hmn2 : ¬ (a : Int) + (bs : Int) < (n : Int) := by omega
                have HN := Lib.hid (blk_done hdn.out (permIn_refl _ _ _) (by omega) (blks_rest hbl.out (by omega)))
                go_wp2
                go_roundw
                case rel => exact ⟨2 * bs, c, by congr 1 <;> omega, by omega, by omega, hsz.out, hp.out, HN.out, HS.out⟩
                case measure => simp [intOf]; omega
        · have HR := Lib.hid (show ∃ c : Array α, c.size = n ∧ PermIn 0 n d c ∧ Srt lt pos c 0 n ∧ SW enc W blk off c wr from
            ⟨co, hsz.out, hp.out, blks_rest hbl.out (by omega), sw_of_alloc (HW1.out ▸ HSO.out) hlt⟩)
          clear hsz hp hbl HSO
          go_wp2
          go_end0
          exact ⟨rfl, HR.out⟩

end Go.Proofs.Ytcdpgdpabmlpdaa
