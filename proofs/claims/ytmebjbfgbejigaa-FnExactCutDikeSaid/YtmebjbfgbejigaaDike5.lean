/- The contracts of CutDike: two lists. -/
import Derived.Test.YtmebjbfgbejigaaDike3
import Derived.StillTailTactics
namespace Go.Proofs.Ytmebjbfgbejigaa
open Go.RowKit

def ctLeft (L : List (Int × Int)) (m : Int) : Nat → Int
  | 0 => m
  | k + 1 => max 0 (ctLeft L m k - (L.getD k (0, 0)).1)
def ctA (L : List (Int × Int)) (m : Int) : Nat → List (Int × Int)
  | 0 => []
  | k + 1 => if 0 < ctLeft L m k then ctA L m k ++ [(min (ctLeft L m k) (L.getD k (0, 0)).1, (L.getD k (0, 0)).2)] else ctA L m k
def ctB (L : List (Int × Int)) (m : Int) : Nat → List (Int × Int)
  | 0 => []
  | k + 1 => if ctLeft L m k < (L.getD k (0, 0)).1 then ctB L m k ++ [((L.getD k (0, 0)).1 - ctLeft L m k, (L.getD k (0, 0)).2)] else ctB L m k
theorem ctLeft_bd {L : List (Int × Int)} {m : Int} (h0 : 0 ≤ m) (h1 : m ≤ 300000) (hok : dikeOk L = true) : ∀ k, k ≤ L.length → 0 ≤ ctLeft L m k ∧ ctLeft L m k ≤ 300000
  | 0, _ => ⟨h0, h1⟩
  | k + 1, hk => by
    have ih := ctLeft_bd h0 h1 hok k (by omega)
    have hx := dikeOk_at hok (get_at (show k < L.length by omega))
    rw [ctLeft, getD_at (get_at (show k < L.length by omega))]
    omega
theorem ctA_len (L : List (Int × Int)) (m : Int) : ∀ k, (ctA L m k).length ≤ k
  | 0 => by simp [ctA]
  | k + 1 => by
    have := ctA_len L m k
    rw [ctA]; split
    · simp; omega
    · omega
theorem ctB_len (L : List (Int × Int)) (m : Int) : ∀ k, (ctB L m k).length ≤ k
  | 0 => by simp [ctB]
  | k + 1 => by
    have := ctB_len L m k
    rw [ctB]; split
    · simp; omega
    · omega
def ctIn (L : List (Int × Int)) (m : Int) : Bool := inB m 1 (lenTo L L.length - 1)
def ctOk (L : List (Int × Int)) (m : Int) : Bool := dikeOk L && ctIn L m
def ctFst (L : List (Int × Int)) (m : Int) : List (Int × Int) := if ctOk L m then ctA L m L.length else []
def ctSnd (L : List (Int × Int)) (m : Int) : List (Int × Int) := if ctOk L m then ctB L m L.length else []
theorem ctFst_len (L : List (Int × Int)) (m : Int) : (ctFst L m).length ≤ 1000000 := by
  unfold ctFst
  split
  · rename_i h
    simp only [ctOk, Bool.and_eq_true] at h
    have := dikeOk_len h.1
    have := ctA_len L m L.length
    omega
  · simp
theorem ctSnd_len (L : List (Int × Int)) (m : Int) : (ctSnd L m).length ≤ 1000000 := by
  unfold ctSnd
  split
  · rename_i h
    simp only [ctOk, Bool.and_eq_true] at h
    have := dikeOk_len h.1
    have := ctB_len L m L.length
    omega
  · simp

set_option maxHeartbeats 4000000 in
set_option maxRecDepth 100000 in
theorem CutDike_c (A : Option Addr) (c : Nat) (L : List (Int × Int)) (m : Int) (w : World) (hR : Rd e2 2 w w.heap.size A L) (hn : L.length ≤ maxLen) :
    Calls Try.prog 29 #[.slice A L.length c, .int .i64 m] w fun e w' => ∃ v u, e = .returned (.tuple #[v, u, .int .i64 (code3 (dikeOk L) (ctIn L m))]) ∧ Own e2 2 w' w.heap.size 63 v (ctFst L m) ∧ Own e2 2 w' w.heap.size 63 u (ctSnd L m) ∧ (v.ownBlock = none ∨ v.ownBlock ≠ u.ownBlock) ∧ Below w.heap.size w w' := by
  cases h : dikeOk L
  · have HA := Lib.hid (show ctFst L m = [] by simp [ctFst, ctOk, h])
    have HB := Lib.hid (show ctSnd L m = [] by simp [ctSnd, ctOk, h])
    have H1 := Lib.hid h
    clear h
    go_enter Try.func29, Try.ntmps29
    go_wp2_with fail
    refine (ValidDike_c _ _ _ _ hR hn).mono ?_
    rintro e w1 ⟨rfl, hb1⟩
    rw [H1.out]
    go_wp2
    go_ret3
    exact ⟨_, _, rfl, by rw [HA.out]; exact (own_empty_at (E := 63) hb1.size).call (below_alloc1 _ _), by rw [HB.out]; exact own_empty2 hb1.size, apart_new (by simp), by have h := hb1.size; exact (hb1.alloc h _).alloc (by simp; omega) _⟩
  have H1 := Lib.hid h
  have hl := dikeOk_len h
  have hbd := lenTo_bd h L.length
  cases h2 : ctIn L m
  · have HA := Lib.hid (show ctFst L m = [] by simp [ctFst, ctOk, h2])
    have HB := Lib.hid (show ctSnd L m = [] by simp [ctSnd, ctOk, h2])
    have H2 := Lib.hid (show inB m 1 (lenTo L L.length - 1) = false from h2)
    clear h h2
    go_enter Try.func29, Try.ntmps29
    go_wp2_with fail
    refine (ValidDike_c _ _ _ _ hR hn).mono ?_
    rintro e w1 ⟨rfl, hb1⟩
    rw [H1.out]
    go_wp2_with fail
    refine (dikeLength_c _ _ _ _ (hR.call hb1) H1.out).mono ?_
    rintro e w2 ⟨rfl, hb2⟩
    have hbc := bel_call hb1 hb2 hb1.size
    clear hb1 hb2
    go_wp2_with fail
    refine (in_c _ _ _ _).mono ?_
    rintro e w' ⟨rfl, rfl⟩
    rw [H2.out]
    go_wp2
    go_ret3
    exact ⟨_, _, rfl, by rw [HA.out]; exact (own_empty_at (E := 63) hbc.size).call (below_alloc1 _ _), by rw [HB.out]; exact own_empty2 hbc.size, apart_new (by simp), by have h := hbc.size; exact (hbc.alloc h _).alloc (by simp; omega) _⟩
  obtain ⟨g1, g2⟩ := inB_iff.1 h2
  have HA := Lib.hid (show ctFst L m = ctA L m L.length by simp [ctFst, ctOk, h, h2])
  have HB := Lib.hid (show ctSnd L m = ctB L m L.length by simp [ctSnd, ctOk, h, h2])
  have H2 := Lib.hid (show inB m 1 (lenTo L L.length - 1) = true from h2)
  have g0 : 0 ≤ m := by omega
  have g3 : m ≤ 300000 := by omega
  clear h h2
  go_enter Try.func29, Try.ntmps29
  go_wp2_with fail
  refine (ValidDike_c _ _ _ _ hR hn).mono ?_
  rintro e w1 ⟨rfl, hb1⟩
  rw [H1.out]
  go_wp2_with fail
  refine (dikeLength_c _ _ _ _ (hR.call hb1) H1.out).mono ?_
  rintro e w2 ⟨rfl, hb2⟩
  have hbc := bel_call hb1 hb2 hb1.size
  clear hb1 hb2
  go_wp2_with fail
  refine (in_c _ _ _ _).mono ?_
  rintro e w' ⟨rfl, rfl⟩
  rw [H2.out]
  clear g1 g2 hbd
  go_wp2
  go_loopw [7, 8, 1, 32] (fun u v s i wr => ∃ k : Nat, k ≤ L.length ∧ i = .int .i64 k ∧ s = .int .i64 (ctLeft L m k) ∧ Own e2 2 wr w.heap.size 63 u (ctA L m k) ∧ Own e2 2 wr w.heap.size 63 v (ctB L m k) ∧ Hid (u.ownBlock = none ∨ u.ownBlock ≠ v.ownBlock) ∧ Below w.heap.size w wr) (fun _ _ _ i _ => L.length - (intOf i).toNat)
  case atStart =>
    refine ⟨0, by omega, rfl, rfl, ?_, ?_, ?_, ?_⟩
    · exact (own_empty_at (E := 63) hbc.size).call (below_alloc1 _ _)
    · exact own_empty2 hbc.size
    · exact apart_new (by simp)
    · have h := hbc.size
      exact (hbc.alloc h _).alloc (by simp; omega) _
  case round =>
    clear hbc
    obtain ⟨k, hk, rfl, rfl, hoA, hoB, AP, hb⟩ := hrel
    have hsz := hb.size
    by_cases hlt : k < L.length
    · obtain ⟨b, off, rfl, hbb, hc⟩ := (hR.below hb).at2 hlt
      have ⟨k0, k1⟩ := hc k _ (get_at hlt)
      obtain ⟨⟨s1, s2⟩, s3, s4⟩ := dikeOk_at H1.out (get_at hlt)
      obtain ⟨l1, l2⟩ := ctLeft_bd g0 g3 H1.out k hk
      have HG := Lib.hid (getD_at (d := ((0 : Int), (0 : Int))) (get_at hlt))
      have HL := Lib.hid (show ctLeft L m (k + 1) = max 0 (ctLeft L m k - L[k].1) by rw [ctLeft, HG.out])
      have HAe := Lib.hid (show ctA L m (k + 1) = if 0 < ctLeft L m k then ctA L m k ++ [(min (ctLeft L m k) L[k].1, L[k].2)] else ctA L m k by rw [ctA, HG.out])
      have HBe := Lib.hid (show ctB L m (k + 1) = if ctLeft L m k < L[k].1 then ctB L m k ++ [(L[k].1 - ctLeft L m k, L[k].2)] else ctB L m k by rw [ctB, HG.out])
      have la := ctA_len L m k
      have lb := ctB_len L m k
      have HOA := Lib.hid hoA
      have HOB := Lib.hid hoB
      have HBW := Lib.hid hb
      clear hc hR hoA hoB hb HG
      generalize L[k] = s at *
      by_cases h0 : 0 < ctLeft L m k
      rotate_left
      · have e0 : ctLeft L m k = 0 := by omega
        have HL1 := Lib.hid (show ctLeft L m (k + 1) = 0 by rw [HL.out]; omega)
        have HA1 := Lib.hid (show ctA L m (k + 1) = ctA L m k by rw [HAe.out, if_neg h0])
        have HB1 := Lib.hid (show ctB L m (k + 1) = ctB L m k ++ [s] by rw [HBe.out, if_pos (by omega), e0, Int.sub_zero])
        clear HL HAe HBe h0
        rw [e0]
        clear e0 l1 l2
        have HBX := Lib.hid (HBW.out.alloc hsz (.cells #[.int .i64 s.1, .int .i64 s.2] 63))
        have HOA1 := Lib.hid (HOA.out.call (below_alloc1 wr (.cells #[.int .i64 s.1, .int .i64 s.2] 63)))
        have HOB1 := Lib.hid (HOB.out.call (below_alloc1 wr (.cells #[.int .i64 s.1, .int .i64 s.2] 63)))
        have HQ0 : Hid ((wr.alloc (.cells #[.int .i64 s.1, .int .i64 s.2] 63)).cell? ⟨wr.heap.size, 0, none⟩ = some (.int .i64 s.1)) := (Blk.new wr 63 #[.int .i64 s.1, .int .i64 s.2]).cell 0
        have HQ1 : Hid ((wr.alloc (.cells #[.int .i64 s.1, .int .i64 s.2] 63)).cell? ⟨wr.heap.size, 1, none⟩ = some (.int .i64 s.2)) := (Blk.new wr 63 #[.int .i64 s.1, .int .i64 s.2]).cell 1
        go_wp2_with (at_builtin; refine app2Section (.tmp 55) (.tmp 63) rfl rfl _ (ctB L m k) s rfl HOB1.out HBX.out rfl (by simp) (by omega) ?_; intro vb wb howB hbB hgB hatB; obtain ⟨howA, apA⟩ := own_other HOA1.out AP.out hgB hatB; have q0 := cell_grown hgB (p := ⟨wr.heap.size, 0, none⟩) (by simp) (own_lt HOB.out (Nat.le_refl _)) HQ0.out; clear hgB hatB)
        go_wp2
        go_roundw
        case rel => exact ⟨k + 1, by omega, by go_num, (by rw [HL1.out]; try exact congrArg (Value.int .i64) (by omega)), by rw [HA1.out]; exact howA, by rw [HB1.out]; exact howB, Lib.hid (apA), hbB⟩
        case measure => simp [intOf]; omega
      by_cases hf : ctLeft L m k < s.1
      · have HL1 := Lib.hid (show ctLeft L m (k + 1) = 0 by rw [HL.out]; omega)
        have HA1 := Lib.hid (show ctA L m (k + 1) = ctA L m k ++ [(ctLeft L m k, s.2)] by rw [HAe.out, if_pos h0, show min (ctLeft L m k) s.1 = ctLeft L m k by omega])
        have HB1 := Lib.hid (show ctB L m (k + 1) = ctB L m k ++ [(s.1 - ctLeft L m k, s.2)] by rw [HBe.out, if_pos hf])
        clear HL HAe HBe
        generalize ctLeft L m k = z at *
        have HBX := Lib.hid (HBW.out.alloc hsz (.cells #[.int .i64 s.1, .int .i64 s.2] 63))
        have HOA1 := Lib.hid (HOA.out.call (below_alloc1 wr (.cells #[.int .i64 s.1, .int .i64 s.2] 63)))
        have HOB1 := Lib.hid (HOB.out.call (below_alloc1 wr (.cells #[.int .i64 s.1, .int .i64 s.2] 63)))
        have HQ0 : Hid ((wr.alloc (.cells #[.int .i64 s.1, .int .i64 s.2] 63)).cell? ⟨wr.heap.size, 0, none⟩ = some (.int .i64 s.1)) := (Blk.new wr 63 #[.int .i64 s.1, .int .i64 s.2]).cell 0
        have HQ1 : Hid ((wr.alloc (.cells #[.int .i64 s.1, .int .i64 s.2] 63)).cell? ⟨wr.heap.size, 1, none⟩ = some (.int .i64 s.2)) := (Blk.new wr 63 #[.int .i64 s.1, .int .i64 s.2]).cell 1
        go_wp2_with (first | (at_builtin; refine app2Section (.tmp 42) (.tmp 47) rfl rfl _ (ctA L m k) (z, s.2) rfl HOA1.out HBX.out rfl (by simp) (by omega) ?_; intro va wa howA hbA hgA hatA; obtain ⟨howB0, apB0⟩ := own_other HOB1.out (apart_symm AP.out) hgA hatA; have q0 := cell_grown hgA (p := ⟨wr.heap.size, 0, none⟩) (by simp) (own_lt HOA.out (Nat.le_refl _)) HQ0.out; have q1 := cell_grown hgA (p := ⟨wr.heap.size, 1, none⟩) (by simp) (own_lt HOA.out (Nat.le_refl _)) HQ1.out; have hza : wr.heap.size < wa.heap.size := (by have := hgA.size; simp at this; omega); have HA2 := Lib.hid howA; have HB2 := Lib.hid howB0; have AP2 := Lib.hid (apart_symm apB0); have HBA := Lib.hid hbA; have HQ0A := Lib.hid q0; have HQ1A := Lib.hid q1; clear howA howB0 apB0 hbA hgA hatA HQ0 HQ1 HBX HOA1 HOB1) | (at_builtin; refine app2Section (.tmp 55) (.tmp 63) rfl rfl _ (ctB L m k) (s.1 - z, s.2) rfl HB2.out HBA.out rfl (by simp) (by omega) ?_; intro vb wb howB hbB hgB hatB; obtain ⟨howA, apA⟩ := own_other HA2.out AP2.out hgB hatB; have q0 := cell_grown hgB (p := ⟨wr.heap.size, 0, none⟩) hza (own_lt HOB.out (Nat.le_refl _)) HQ0A.out; clear hgB hatB))
        go_wp2
        go_roundw
        case rel => exact ⟨k + 1, by omega, by go_num, (by rw [HL1.out]; try exact congrArg (Value.int .i64) (by omega)), by rw [HA1.out]; exact howA, by rw [HB1.out]; exact howB, Lib.hid (apA), hbB⟩
        case measure => simp [intOf]; omega
      · have HL1 := Lib.hid (show ctLeft L m (k + 1) = ctLeft L m k - s.1 by rw [HL.out]; omega)
        have HA1 := Lib.hid (show ctA L m (k + 1) = ctA L m k ++ [s] by rw [HAe.out, if_pos h0, show min (ctLeft L m k) s.1 = s.1 by omega])
        have HB1 := Lib.hid (show ctB L m (k + 1) = ctB L m k by rw [HBe.out, if_neg hf])
        clear HL HAe HBe
        generalize ctLeft L m k = z at *
        by_cases hg : s.1 < z
        rotate_left
        · obtain rfl : z = s.1 := by omega
          clear hg hf
          have HBX := Lib.hid (HBW.out.alloc hsz (.cells #[.int .i64 s.1, .int .i64 s.2] 63))
          have HOA1 := Lib.hid (HOA.out.call (below_alloc1 wr (.cells #[.int .i64 s.1, .int .i64 s.2] 63)))
          have HOB1 := Lib.hid (HOB.out.call (below_alloc1 wr (.cells #[.int .i64 s.1, .int .i64 s.2] 63)))
          have HQ0 : Hid ((wr.alloc (.cells #[.int .i64 s.1, .int .i64 s.2] 63)).cell? ⟨wr.heap.size, 0, none⟩ = some (.int .i64 s.1)) := (Blk.new wr 63 #[.int .i64 s.1, .int .i64 s.2]).cell 0
          have HQ1 : Hid ((wr.alloc (.cells #[.int .i64 s.1, .int .i64 s.2] 63)).cell? ⟨wr.heap.size, 1, none⟩ = some (.int .i64 s.2)) := (Blk.new wr 63 #[.int .i64 s.1, .int .i64 s.2]).cell 1
          go_wp2_with (at_builtin; refine app2Section (.tmp 42) (.tmp 47) rfl rfl _ (ctA L m k) s rfl HOA1.out HBX.out rfl (by simp) (by omega) ?_; intro va wa howA hbA hgA hatA; obtain ⟨howB0, apB0⟩ := own_other HOB1.out (apart_symm AP.out) hgA hatA; have q0 := cell_grown hgA (p := ⟨wr.heap.size, 0, none⟩) (by simp) (own_lt HOA.out (Nat.le_refl _)) HQ0.out; have q1 := cell_grown hgA (p := ⟨wr.heap.size, 1, none⟩) (by simp) (own_lt HOA.out (Nat.le_refl _)) HQ1.out; have hza : wr.heap.size < wa.heap.size := (by have := hgA.size; simp at this; omega); have HA2 := Lib.hid howA; have HB2 := Lib.hid howB0; have AP2 := Lib.hid (apart_symm apB0); have HBA := Lib.hid hbA; have HQ0A := Lib.hid q0; have HQ1A := Lib.hid q1; clear howA howB0 apB0 hbA hgA hatA HQ0 HQ1 HBX HOA1 HOB1)
          go_wp2
          go_roundw
          case rel => exact ⟨k + 1, by omega, by go_num, (by rw [HL1.out]; try exact congrArg (Value.int .i64) (by omega)), by rw [HA1.out]; exact HA2.out, by rw [HB1.out]; exact HB2.out, Lib.hid (AP2.out), HBA.out⟩
          case measure => simp [intOf]; omega
        have HBX := Lib.hid (HBW.out.alloc hsz (.cells #[.int .i64 s.1, .int .i64 s.2] 63))
        have HOA1 := Lib.hid (HOA.out.call (below_alloc1 wr (.cells #[.int .i64 s.1, .int .i64 s.2] 63)))
        have HOB1 := Lib.hid (HOB.out.call (below_alloc1 wr (.cells #[.int .i64 s.1, .int .i64 s.2] 63)))
        have HQ0 : Hid ((wr.alloc (.cells #[.int .i64 s.1, .int .i64 s.2] 63)).cell? ⟨wr.heap.size, 0, none⟩ = some (.int .i64 s.1)) := (Blk.new wr 63 #[.int .i64 s.1, .int .i64 s.2]).cell 0
        have HQ1 : Hid ((wr.alloc (.cells #[.int .i64 s.1, .int .i64 s.2] 63)).cell? ⟨wr.heap.size, 1, none⟩ = some (.int .i64 s.2)) := (Blk.new wr 63 #[.int .i64 s.1, .int .i64 s.2]).cell 1
        go_wp2_with (at_builtin; refine app2Section (.tmp 42) (.tmp 47) rfl rfl _ (ctA L m k) s rfl HOA1.out HBX.out rfl (by simp) (by omega) ?_; intro va wa howA hbA hgA hatA; obtain ⟨howB0, apB0⟩ := own_other HOB1.out (apart_symm AP.out) hgA hatA; have q0 := cell_grown hgA (p := ⟨wr.heap.size, 0, none⟩) (by simp) (own_lt HOA.out (Nat.le_refl _)) HQ0.out; have q1 := cell_grown hgA (p := ⟨wr.heap.size, 1, none⟩) (by simp) (own_lt HOA.out (Nat.le_refl _)) HQ1.out; have hza : wr.heap.size < wa.heap.size := (by have := hgA.size; simp at this; omega); have HA2 := Lib.hid howA; have HB2 := Lib.hid howB0; have AP2 := Lib.hid (apart_symm apB0); have HBA := Lib.hid hbA; have HQ0A := Lib.hid q0; have HQ1A := Lib.hid q1; clear howA howB0 apB0 hbA hgA hatA HQ0 HQ1 HBX HOA1 HOB1)
        go_wp2
        go_roundw
        case rel => exact ⟨k + 1, by omega, by go_num, (by rw [HL1.out]; try exact congrArg (Value.int .i64) (by omega)), by rw [HA1.out]; exact HA2.out, by rw [HB1.out]; exact HB2.out, Lib.hid (AP2.out), HBA.out⟩
        case measure => simp [intOf]; omega
    · obtain rfl : k = L.length := by omega
      go_wp2
      go_ret3
      exact ⟨_, _, rfl, by rw [HA.out]; exact hoA, by rw [HB.out]; exact hoB, AP.out, hb⟩

set_option maxHeartbeats 4000000 in
set_option maxRecDepth 100000 in
theorem lCutDike_c (A : Option Addr) (c : Nat) (L : List (Int × Int)) (m : Int) (w : World) (hR : Rd e2 2 w w.heap.size A L) (hn : L.length ≤ maxLen) :
    Calls Try.prog 28 #[.slice A L.length c, .int .i64 m] w fun e w' => ∃ v u, e = .returned (.tuple #[v, u, .int .i64 (code3 (dikeOk L) (ctIn L m))]) ∧ Own e2 2 w' w.heap.size 63 v (ctFst L m) ∧ Own e2 2 w' w.heap.size 63 u (ctSnd L m) ∧ (v.ownBlock = none ∨ v.ownBlock ≠ u.ownBlock) ∧ Below w.heap.size w w' := by
  cases h : dikeOk L
  · have HA := Lib.hid (show ctFst L m = [] by simp [ctFst, ctOk, h])
    have HB := Lib.hid (show ctSnd L m = [] by simp [ctSnd, ctOk, h])
    have H1 := Lib.hid h
    clear h
    go_enter Try.func28, Try.ntmps28
    go_wp2_with fail
    refine (l07Ok_c _ _ _ _ hR hn).mono ?_
    rintro e w1 ⟨rfl, hb1⟩
    rw [H1.out]
    go_wp2
    go_ret3
    exact ⟨_, _, rfl, by rw [HA.out]; exact Own.nil_, by rw [HB.out]; exact Own.nil_, .inl rfl, hb1⟩
  have H1 := Lib.hid h
  have hl := dikeOk_len h
  have hbd := lenTo_bd h L.length
  cases h2 : ctIn L m
  · have HA := Lib.hid (show ctFst L m = [] by simp [ctFst, ctOk, h2])
    have HB := Lib.hid (show ctSnd L m = [] by simp [ctSnd, ctOk, h2])
    have H2 := Lib.hid (show inB m 1 (lenTo L L.length - 1) = false from h2)
    clear h h2
    go_enter Try.func28, Try.ntmps28
    go_wp2_with fail
    refine (l07Ok_c _ _ _ _ hR hn).mono ?_
    rintro e w1 ⟨rfl, hb1⟩
    rw [H1.out]
    go_wp2_with fail
    refine (l07Length_c _ _ _ _ (hR.call hb1) H1.out).mono ?_
    rintro e w2 ⟨rfl, hb2⟩
    have hbc := bel_call hb1 hb2 hb1.size
    clear hb1 hb2
    go_wp2_with fail
    refine (lin_c _ _ _ _).mono ?_
    rintro e w' ⟨rfl, rfl⟩
    rw [H2.out]
    go_wp2
    go_ret3
    exact ⟨_, _, rfl, by rw [HA.out]; exact Own.nil_, by rw [HB.out]; exact Own.nil_, .inl rfl, hbc⟩
  obtain ⟨g1, g2⟩ := inB_iff.1 h2
  have HA := Lib.hid (show ctFst L m = ctA L m L.length by simp [ctFst, ctOk, h, h2])
  have HB := Lib.hid (show ctSnd L m = ctB L m L.length by simp [ctSnd, ctOk, h, h2])
  have H2 := Lib.hid (show inB m 1 (lenTo L L.length - 1) = true from h2)
  have g0 : 0 ≤ m := by omega
  have g3 : m ≤ 300000 := by omega
  clear h h2
  go_enter Try.func28, Try.ntmps28
  go_wp2_with fail
  refine (l07Ok_c _ _ _ _ hR hn).mono ?_
  rintro e w1 ⟨rfl, hb1⟩
  rw [H1.out]
  go_wp2_with fail
  refine (l07Length_c _ _ _ _ (hR.call hb1) H1.out).mono ?_
  rintro e w2 ⟨rfl, hb2⟩
  have hbc := bel_call hb1 hb2 hb1.size
  clear hb1 hb2
  go_wp2_with fail
  refine (lin_c _ _ _ _).mono ?_
  rintro e w' ⟨rfl, rfl⟩
  rw [H2.out]
  clear g1 g2 hbd
  go_wp2
  go_loopw [7, 8, 9, 10] (fun u v s i wr => ∃ k : Nat, k ≤ L.length ∧ i = .int .i64 k ∧ s = .int .i64 (ctLeft L m k) ∧ Own e2 2 wr w.heap.size 63 u (ctA L m k) ∧ Own e2 2 wr w.heap.size 63 v (ctB L m k) ∧ Hid (u.ownBlock = none ∨ u.ownBlock ≠ v.ownBlock) ∧ Below w.heap.size w wr) (fun _ _ _ i _ => L.length - (intOf i).toNat)
  case atStart =>
    refine ⟨0, by omega, rfl, rfl, ?_, ?_, ?_, ?_⟩
    · exact (own_empty_at (E := 63) hbc.size).call (below_alloc1 _ _)
    · exact own_empty2 hbc.size
    · exact apart_new (by simp)
    · have h := hbc.size
      exact (hbc.alloc h _).alloc (by simp; omega) _
  case round =>
    clear hbc
    obtain ⟨k, hk, rfl, rfl, hoA, hoB, AP, hb⟩ := hrel
    have hsz := hb.size
    by_cases hlt : k < L.length
    · obtain ⟨b, off, rfl, hbb, hc⟩ := (hR.below hb).at2 hlt
      have ⟨k0, k1⟩ := hc k _ (get_at hlt)
      obtain ⟨⟨s1, s2⟩, s3, s4⟩ := dikeOk_at H1.out (get_at hlt)
      obtain ⟨l1, l2⟩ := ctLeft_bd g0 g3 H1.out k hk
      have HG := Lib.hid (getD_at (d := ((0 : Int), (0 : Int))) (get_at hlt))
      have HL := Lib.hid (show ctLeft L m (k + 1) = max 0 (ctLeft L m k - L[k].1) by rw [ctLeft, HG.out])
      have HAe := Lib.hid (show ctA L m (k + 1) = if 0 < ctLeft L m k then ctA L m k ++ [(min (ctLeft L m k) L[k].1, L[k].2)] else ctA L m k by rw [ctA, HG.out])
      have HBe := Lib.hid (show ctB L m (k + 1) = if ctLeft L m k < L[k].1 then ctB L m k ++ [(L[k].1 - ctLeft L m k, L[k].2)] else ctB L m k by rw [ctB, HG.out])
      have la := ctA_len L m k
      have lb := ctB_len L m k
      have HOA := Lib.hid hoA
      have HOB := Lib.hid hoB
      have HBW := Lib.hid hb
      clear hc hR hoA hoB hb HG
      generalize L[k] = s at *
      by_cases h0 : 0 < ctLeft L m k
      rotate_left
      · have e0 : ctLeft L m k = 0 := by omega
        have HL1 := Lib.hid (show ctLeft L m (k + 1) = 0 by rw [HL.out]; omega)
        have HA1 := Lib.hid (show ctA L m (k + 1) = ctA L m k by rw [HAe.out, if_neg h0])
        have HB1 := Lib.hid (show ctB L m (k + 1) = ctB L m k ++ [s] by rw [HBe.out, if_pos (by omega), e0, Int.sub_zero])
        clear HL HAe HBe h0
        rw [e0]
        clear e0 l1 l2
        go_wp2_with fail
        refine (lmin_c _ _ _).mono ?_
        rintro e w' ⟨rfl, rfl⟩
        rw [show min (0 : Int) s.1 = 0 by omega]
        have i8 : IntKind.i64.wrap s.1 = s.1 := by rw [IntWalk.i64_in _ (by omega)]
        have i9 : IntKind.i64.wrap (s.1 - 0) = s.1 := by rw [Int.sub_zero]; exact i8
        have j1 : (0 : Int) ≤ (k : Int) := by omega
        have j2 : (k : Int) < (L.length : Int) := by omega
        go_wp2
        go_region_held3 (fun w' => w'.cell? ⟨b, off + k * 2, none⟩ = some (.int .i64 s.1) ∧ w'.cell? ⟨b, off + k * 2 + 1, none⟩ = some (.int .i64 s.2)) (first | exact ⟨k0, k1⟩ | exact ⟨kc (below_alloc1 _ _).drew k0, kc (below_alloc1 _ _).drew k1⟩ | exact ⟨kc2 HBW.out hbB hbb k0, kc2 HBW.out hbB hbb k1⟩) ((refine step2Section _ _ rfl rfl _ (ctB L m k) s rfl (HOB.out.call (below_drew_ _)) (HBW.out.drew) rfl (by simp) (by omega) ?_; intro vb wb howB hbB hgB hatB))
        obtain ⟨howA, apA⟩ := own_other (HOA.out.call (below_drew_ _)) AP.out hgB hatB
        clear hgB hatB
        go_wp2
        go_roundw
        case rel => exact ⟨k + 1, by omega, by go_num, (by rw [HL1.out]; try exact congrArg (Value.int .i64) (by omega)), by rw [HA1.out]; exact howA, by rw [HB1.out]; exact howB, Lib.hid (apA), hbB⟩
        case measure => simp [intOf]; omega
      by_cases hf : ctLeft L m k < s.1
      · have HL1 := Lib.hid (show ctLeft L m (k + 1) = 0 by rw [HL.out]; omega)
        have HA1 := Lib.hid (show ctA L m (k + 1) = ctA L m k ++ [(ctLeft L m k, s.2)] by rw [HAe.out, if_pos h0, show min (ctLeft L m k) s.1 = ctLeft L m k by omega])
        have HB1 := Lib.hid (show ctB L m (k + 1) = ctB L m k ++ [(s.1 - ctLeft L m k, s.2)] by rw [HBe.out, if_pos hf])
        clear HL HAe HBe
        generalize ctLeft L m k = z at *
        go_wp2_with fail
        refine (lmin_c _ _ _).mono ?_
        rintro e w' ⟨rfl, rfl⟩
        rw [show min z s.1 = z by omega]
        go_wp2_with (at_builtin; refine app2Section (.tmp 42) (.tmp 50) rfl rfl _ (ctA L m k) (z, s.2) rfl HOA.out HBW.out rfl (by simp) (by omega) ?_; intro va wa howA hbA hgA hatA; obtain ⟨howB0, apB0⟩ := own_other HOB.out (apart_symm AP.out) hgA hatA; have HA2 := Lib.hid howA; have HB2 := Lib.hid howB0; have AP2 := Lib.hid (apart_symm apB0); have HBA := Lib.hid hbA; replace k0 := kc2 HBW.out hbA hbb k0; replace k1 := kc2 HBW.out hbA hbb k1; have hza := hbA.size; clear howA howB0 apB0 hbA hgA hatA)
        have i8 : IntKind.i64.wrap (s.1 - z) = s.1 - z := by rw [IntWalk.i64_in _ (by omega)]
        have j1 : (0 : Int) ≤ (k : Int) := by omega
        have j2 : (k : Int) < (L.length : Int) := by omega
        go_wp2
        go_region_held3 (fun w' => w'.cell? ⟨b, off + k * 2, none⟩ = some (.int .i64 s.1) ∧ w'.cell? ⟨b, off + k * 2 + 1, none⟩ = some (.int .i64 s.2)) (first | exact ⟨k0, k1⟩ | exact ⟨kc (below_alloc1 _ _).drew k0, kc (below_alloc1 _ _).drew k1⟩ | exact ⟨kc2 HBA.out hbB hbb k0, kc2 HBA.out hbB hbb k1⟩) ((refine step2Section _ _ rfl rfl _ (ctB L m k) (s.1 - z, s.2) rfl (HB2.out.call (below_drew_ _)) (HBA.out.drew) rfl (by simp) (by omega) ?_; intro vb wb howB hbB hgB hatB))
        obtain ⟨howA, apA⟩ := own_other (HA2.out.call (below_drew_ _)) AP2.out hgB hatB
        clear hgB hatB
        go_wp2
        go_roundw
        case rel => exact ⟨k + 1, by omega, by go_num, (by rw [HL1.out]; try exact congrArg (Value.int .i64) (by omega)), by rw [HA1.out]; exact howA, by rw [HB1.out]; exact howB, Lib.hid (apA), hbB⟩
        case measure => simp [intOf]; omega
      · have HL1 := Lib.hid (show ctLeft L m (k + 1) = ctLeft L m k - s.1 by rw [HL.out]; omega)
        have HA1 := Lib.hid (show ctA L m (k + 1) = ctA L m k ++ [s] by rw [HAe.out, if_pos h0, show min (ctLeft L m k) s.1 = s.1 by omega])
        have HB1 := Lib.hid (show ctB L m (k + 1) = ctB L m k by rw [HBe.out, if_neg hf])
        clear HL HAe HBe
        generalize ctLeft L m k = z at *
        go_wp2_with fail
        refine (lmin_c _ _ _).mono ?_
        rintro e w' ⟨rfl, rfl⟩
        rw [show min z s.1 = s.1 by omega]
        go_wp2_with (at_builtin; refine app2Section (.tmp 42) (.tmp 50) rfl rfl _ (ctA L m k) s rfl HOA.out HBW.out rfl (by simp) (by omega) ?_; intro va wa howA hbA hgA hatA; obtain ⟨howB0, apB0⟩ := own_other HOB.out (apart_symm AP.out) hgA hatA; have HA2 := Lib.hid howA; have HB2 := Lib.hid howB0; have AP2 := Lib.hid (apart_symm apB0); have HBA := Lib.hid hbA; replace k0 := kc2 HBW.out hbA hbb k0; replace k1 := kc2 HBW.out hbA hbb k1; have hza := hbA.size; clear howA howB0 apB0 hbA hgA hatA)
        go_wp2
        go_roundw
        case rel => exact ⟨k + 1, by omega, by go_num, (by rw [HL1.out]; try exact congrArg (Value.int .i64) (by omega)), by rw [HA1.out]; exact HA2.out, by rw [HB1.out]; exact HB2.out, Lib.hid (AP2.out), HBA.out⟩
        case measure => simp [intOf]; omega
    · obtain rfl : k = L.length := by omega
      go_wp2
      go_ret3
      exact ⟨_, _, rfl, by rw [HA.out]; exact hoA, by rw [HB.out]; exact hoB, AP.out, hb⟩

end Go.Proofs.Ytmebjbfgbejigaa
