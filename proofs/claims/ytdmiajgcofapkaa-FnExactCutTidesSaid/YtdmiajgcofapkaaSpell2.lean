/- A tide at a minute, and the minutes below a level: what the program computes minute by minute is what the reference computes part by part. Plain lists and numbers. -/
import Derived.Test.YtdmiajgcofapkaaSpell
namespace Go.Proofs.Ytdmiajgcofapkaa
open Go.RowKit

theorem firstFrom_ex {p : Nat → Bool} : ∀ (m k q : Nat), k ≤ q → q < k + m → p q = true → ∃ r, firstFrom p m k = some r ∧ k ≤ r ∧ r ≤ q ∧ p r = true ∧ ∀ j, k ≤ j → j < r → p j = false
  | 0, k, q, h1, h2, _ => by omega
  | m + 1, k, q, h1, h2, h3 => by
    by_cases h : p k = true
    · exact ⟨k, by rw [firstFrom, if_pos h], Nat.le_refl _, h1, h, fun j hj hk => by omega⟩
    · have hkq : k ≠ q := fun e => h (e ▸ h3)
      obtain ⟨r, h4, h5, h6, h7, h8⟩ := firstFrom_ex m (k + 1) q (by omega) (by omega) h3
      refine ⟨r, by rw [firstFrom, if_neg h]; exact h4, by omega, h6, h7, fun j hj hr => ?_⟩
      by_cases e : j = k
      · subst e; simpa using h
      · exact h8 j (by omega) hr
def sgGo (L : List (Int × Int)) (m : Int) (j : Nat) : Bool := !(decide (j + 2 < L.length) && decide (mnt L (j + 1) ≤ m))
/-- the number of the part in which a minute lies -/
def sgOf (L : List (Int × Int)) (m : Int) : Nat := match firstFrom (sgGo L m) L.length 0 with | some k => k | none => 0
theorem sgGo_t {L : List (Int × Int)} {m : Int} {j : Nat} : sgGo L m j = true ↔ ¬ (j + 2 < L.length ∧ mnt L (j + 1) ≤ m) := by simp [sgGo]; omega
theorem sgGo_f {L : List (Int × Int)} {m : Int} {j : Nat} : sgGo L m j = false ↔ (j + 2 < L.length ∧ mnt L (j + 1) ≤ m) := by simp [sgGo]
theorem sg_is {L : List (Int × Int)} {m : Int} {k : Nat} (hk : k + 1 < L.length) (h1 : ¬ (k + 2 < L.length ∧ mnt L (k + 1) ≤ m)) (h2 : ∀ j, j < k → j + 2 < L.length ∧ mnt L (j + 1) ≤ m) : sgOf L m = k := by
  rw [sgOf, firstFrom_some L.length 0 k (by omega) (by omega) (fun j _ hj => sgGo_f.2 (h2 j hj)) (sgGo_t.2 h1)]
theorem sg_spec {L : List (Int × Int)} (hl : 2 ≤ L.length) (m : Int) : sgOf L m + 1 < L.length ∧ ¬ (sgOf L m + 2 < L.length ∧ mnt L (sgOf L m + 1) ≤ m) ∧ ∀ j, j < sgOf L m → j + 2 < L.length ∧ mnt L (j + 1) ≤ m := by
  obtain ⟨r, h4, _, h6, h7, h8⟩ := firstFrom_ex (p := sgGo L m) L.length 0 (L.length - 2) (by omega) (by omega) (sgGo_t.2 (by omega))
  have e : sgOf L m = r := by rw [sgOf, h4]
  rw [e]
  exact ⟨by omega, sgGo_t.1 h7, fun j hj => sgGo_f.1 (h8 j (by omega) hj)⟩
def tDen (L : List (Int × Int)) (m : Int) : Int := mnt L (sgOf L m + 1) - mnt L (sgOf L m)
def tNum (L : List (Int × Int)) (m : Int) : Int := lvl L (sgOf L m) * (mnt L (sgOf L m + 1) - mnt L (sgOf L m)) + (lvl L (sgOf L m + 1) - lvl L (sgOf L m)) * (m - mnt L (sgOf L m))
def below (L : List (Int × Int)) (lv m : Int) : Bool := decide (tNum L m < lv * tDen L m)
theorem mn_le {L : List (Int × Int)} (h : tidesOk L = true) : ∀ (d i : Nat), i + d < L.length → mnt L i + d ≤ mnt L (i + d)
  | 0, i, _ => by simp
  | d + 1, i, hi => by
    have h1 := mn_le h d i (by omega)
    have h2 := mn_step h (k := i + d) (by omega)
    rw [show i + (d + 1) = i + d + 1 by omega]
    omega
theorem mn_lt {L : List (Int × Int)} (h : tidesOk L = true) {i j : Nat} (hij : i ≤ j) (hj : j < L.length) : mnt L i + ((j - i : Nat) : Int) ≤ mnt L j := by
  have := mn_le h (j - i) i (by omega)
  rwa [show i + (j - i) = j by omega] at this
theorem mnt_bd {L : List (Int × Int)} (h : tidesOk L = true) {i : Nat} (hi : i < L.length) : 0 ≤ mnt L i ∧ mnt L i ≤ 100000 := by
  rw [mnt, getD_at (get_at hi)]; exact (tidesOk_at h (get_at hi)).1
theorem lvl_bd {L : List (Int × Int)} (h : tidesOk L = true) {i : Nat} (hi : i < L.length) : -2000 ≤ lvl L i ∧ lvl L i ≤ 2000 := by
  rw [lvl, getD_at (get_at hi)]; exact (tidesOk_at h (get_at hi)).2
theorem lvl_ne {L : List (Int × Int)} (h : tidesOk L = true) {i : Nat} (hi : i + 1 < L.length) : lvl L i ≠ lvl L (i + 1) := by
  have hi0 : i < L.length := by omega
  have hn := nbAll_at (by simp only [tidesOk, Bool.and_eq_true] at h; exact h.2.2) (k := i + 1) hi
  rw [lvl, lvl, getD_at (get_at hi), getD_at (get_at hi0)]
  have hs : stp L[i] L[i + 1] = true := by
    by_cases hk : i = 0
    · subst hk
      rw [nb1 (k := 0 + 1) rfl (show L[0 + 1 - 1]? = some L[0] from get_at hi0) (get_at hi)] at hn
      exact hn
    · obtain ⟨q, rfl⟩ : ∃ q, i = q + 1 := ⟨i - 1, by omega⟩
      have hq : q < L.length := by omega
      rw [nb2 (k := q + 1 + 1) (by omega) (show L[q + 1 + 1 - 2]? = some L[q] from get_at hq) (show L[q + 1 + 1 - 1]? = some L[q + 1] from get_at hi0) (get_at hi)] at hn
      simp only [Bool.and_eq_true] at hn
      exact hn.1
  simp only [stp, Bool.and_eq_true, bne_iff_ne] at hs
  exact hs.2
/-- a minute of the table: where it lies -/
theorem sg_at {L : List (Int × Int)} (h : tidesOk L = true) {m : Int} (h0 : mnt L 0 ≤ m) (h1 : m ≤ mnt L (L.length - 1)) : sgOf L m + 1 < L.length ∧ mnt L (sgOf L m) ≤ m ∧ m ≤ mnt L (sgOf L m + 1) := by
  have hl := tidesOk_len h
  obtain ⟨a, b, c⟩ := sg_spec hl.1 m
  refine ⟨a, ?_, ?_⟩
  · by_cases e : sgOf L m = 0
    · rw [e]; exact h0
    · have := (c (sgOf L m - 1) (by omega)).2
      rwa [show sgOf L m - 1 + 1 = sgOf L m by omega] at this
  · by_cases e : sgOf L m + 2 < L.length
    · omega
    · rw [show sgOf L m + 1 = L.length - 1 by omega]; exact h1
theorem tDen_bd {L : List (Int × Int)} (h : tidesOk L = true) (m : Int) : 0 < tDen L m ∧ tDen L m ≤ 100000 := by
  have hl := tidesOk_len h
  obtain ⟨a, _, _⟩ := sg_spec hl.1 m
  have h1 := mn_step h a
  have h2 := mnt_bd h a
  have h3 := mnt_bd h (show sgOf L m < L.length by omega)
  unfold tDen
  omega
theorem tNum_bd {L : List (Int × Int)} (h : tidesOk L = true) {m : Int} (h0 : mnt L 0 ≤ m) (h1 : m ≤ mnt L (L.length - 1)) :
    (-200000000 ≤ lvl L (sgOf L m) * (mnt L (sgOf L m + 1) - mnt L (sgOf L m)) ∧ lvl L (sgOf L m) * (mnt L (sgOf L m + 1) - mnt L (sgOf L m)) ≤ 200000000) ∧ -400000000 ≤ (lvl L (sgOf L m + 1) - lvl L (sgOf L m)) * (m - mnt L (sgOf L m)) ∧ (lvl L (sgOf L m + 1) - lvl L (sgOf L m)) * (m - mnt L (sgOf L m)) ≤ 400000000 := by
  obtain ⟨a, b, c⟩ := sg_at h h0 h1
  have b1 := mnt_bd h a
  have b2 := mnt_bd h (show sgOf L m < L.length by omega)
  have b3 := lvl_bd h a
  have b4 := lvl_bd h (show sgOf L m < L.length by omega)
  have e1 := prod_bd (a := lvl L (sgOf L m)) (b := mnt L (sgOf L m + 1) - mnt L (sgOf L m)) (A := 2000) (B := 100000) (by omega) (by omega) (by omega) (by omega) (by omega)
  have e2 := prod_bd (a := lvl L (sgOf L m + 1) - lvl L (sgOf L m)) (b := m - mnt L (sgOf L m)) (A := 4000) (B := 100000) (by omega) (by omega) (by omega) (by omega) (by omega)
  omega
/-- the first and the last minute between two tides at which the tide is below a level -/
def part (a b : Int × Int) (lv : Int) : Int × Int :=
  if a.2 < b.2 then (if lv ≤ a.2 then (1, 0) else (a.1, min b.1 (a.1 + ((lv - a.2) * (b.1 - a.1) - 1) / (b.2 - a.2))))
  else if lv ≤ b.2 then (1, 0) else (max a.1 (b.1 - ((lv - b.2) * (b.1 - a.1) - 1) / (a.2 - b.2)), b.1)
theorem part_is {a b : Int × Int} {lv m : Int} (hab : a.1 < b.1) (hne : a.2 ≠ b.2) (h1 : a.1 ≤ m) (h2 : m ≤ b.1) : a.2 * (b.1 - a.1) + (b.2 - a.2) * (m - a.1) < lv * (b.1 - a.1) ↔ (part a b lv).1 ≤ m ∧ m ≤ (part a b lv).2 := by
  unfold part
  generalize hn : b.1 - a.1 = n
  by_cases hr : a.2 < b.2
  · rw [if_pos hr]
    by_cases hl : lv ≤ a.2
    · rw [if_pos hl]
      constructor
      · intro h
        exfalso
        have e1 : lv * n ≤ a.2 * n := Int.mul_le_mul_of_nonneg_right hl (by omega)
        have e2 : 0 ≤ (b.2 - a.2) * (m - a.1) := Int.mul_nonneg (by omega) (by omega)
        omega
      · rintro ⟨h3, h4⟩; exfalso; simp only at h3 h4; omega
    · rw [if_neg hl]
      have hq : m - a.1 ≤ ((lv - a.2) * n - 1) / (b.2 - a.2) ↔ (m - a.1) * (b.2 - a.2) ≤ (lv - a.2) * n - 1 := Int.le_ediv_iff_mul_le (by omega)
      have e1 : (lv - a.2) * n = lv * n - a.2 * n := Int.sub_mul _ _ _
      have e2 : (m - a.1) * (b.2 - a.2) = (b.2 - a.2) * (m - a.1) := Int.mul_comm _ _
      rw [e1, e2] at hq
      rw [e1]
      simp only
      constructor
      · intro h
        have := hq.2 (by omega)
        omega
      · intro h
        have := hq.1 (by omega)
        omega
  · rw [if_neg hr]
    have hd : (b.2 - a.2) * (m - a.1) = (a.2 - b.2) * (b.1 - m) - (a.2 - b.2) * n := by
      rw [← Int.mul_sub, ← hn, show b.1 - m - (b.1 - a.1) = -(m - a.1) by omega, Int.mul_neg, ← Int.neg_mul, Int.neg_sub]
    have hs : (a.2 - b.2) * n = a.2 * n - b.2 * n := Int.sub_mul _ _ _
    by_cases hl : lv ≤ b.2
    · rw [if_pos hl]
      constructor
      · intro h
        exfalso
        have e1 : lv * n ≤ b.2 * n := Int.mul_le_mul_of_nonneg_right hl (by omega)
        have e2 : 0 ≤ (a.2 - b.2) * (b.1 - m) := Int.mul_nonneg (by omega) (by omega)
        omega
      · rintro ⟨h3, h4⟩; exfalso; simp only at h3 h4; omega
    · rw [if_neg hl]
      have hq : b.1 - m ≤ ((lv - b.2) * n - 1) / (a.2 - b.2) ↔ (b.1 - m) * (a.2 - b.2) ≤ (lv - b.2) * n - 1 := Int.le_ediv_iff_mul_le (by omega)
      have e1 : (lv - b.2) * n = lv * n - b.2 * n := Int.sub_mul _ _ _
      have e2 : (b.1 - m) * (a.2 - b.2) = (a.2 - b.2) * (b.1 - m) := Int.mul_comm _ _
      rw [e1, e2] at hq
      rw [e1]
      simp only
      constructor
      · intro h
        have := hq.2 (by omega)
        omega
      · intro h
        have := hq.1 (by omega)
        omega
theorem part_in {a b : Int × Int} {lv : Int} (h : (part a b lv).1 ≤ (part a b lv).2) : a.1 ≤ (part a b lv).1 ∧ (part a b lv).2 ≤ b.1 := by
  unfold part at h ⊢
  by_cases hr : a.2 < b.2
  · rw [if_pos hr] at h ⊢
    by_cases hl : lv ≤ a.2
    · rw [if_pos hl] at h; simp only at h; omega
    · rw [if_neg hl]; simp only; omega
  · rw [if_neg hr] at h ⊢
    by_cases hl : lv ≤ b.2
    · rw [if_pos hl] at h; simp only at h; omega
    · rw [if_neg hl]; simp only; omega
/-- below a level, inside one part -/
theorem below_seg {L : List (Int × Int)} (h : tidesOk L = true) {i : Nat} (hi : i + 1 < L.length) {m : Int} (lv : Int) (h1 : mnt L i ≤ m) (h2 : m ≤ mnt L (i + 1)) :
    below L lv m = true ↔ lvl L i * (mnt L (i + 1) - mnt L i) + (lvl L (i + 1) - lvl L i) * (m - mnt L i) < lv * (mnt L (i + 1) - mnt L i) := by
  have hst := mn_step h hi
  have hall : ∀ j, j < i → j + 2 < L.length ∧ mnt L (j + 1) ≤ m := fun j hj => ⟨by omega, by have := mn_lt h (show j + 1 ≤ i by omega) (by omega); omega⟩
  have hsame : sgOf L m = i → (below L lv m = true ↔ lvl L i * (mnt L (i + 1) - mnt L i) + (lvl L (i + 1) - lvl L i) * (m - mnt L i) < lv * (mnt L (i + 1) - mnt L i)) := fun e => by
    rw [below, tNum, tDen, e]; exact decide_eq_true_iff
  by_cases hm : m < mnt L (i + 1)
  · exact hsame (sg_is hi (by omega) hall)
  · obtain rfl : m = mnt L (i + 1) := by omega
    by_cases hl : i + 2 < L.length
    · have hst2 := mn_step h (k := i + 1) hl
      have e : sgOf L (mnt L (i + 1)) = i + 1 := sg_is hl (by omega) (fun j hj => by
        by_cases e : j = i
        · subst e; exact ⟨by omega, Int.le_refl _⟩
        · exact hall j (by omega))
      rw [below, tNum, tDen, e, decide_eq_true_iff, Int.sub_self, Int.mul_zero, Int.add_zero]
      have e1 : lvl L i * (mnt L (i + 1) - mnt L i) + (lvl L (i + 1) - lvl L i) * (mnt L (i + 1) - mnt L i) = lvl L (i + 1) * (mnt L (i + 1) - mnt L i) := by
        rw [← Int.add_mul]; congr 1; omega
      rw [e1]
      constructor
      · intro hlt
        exact Int.mul_lt_mul_of_pos_right (Int.lt_of_mul_lt_mul_right hlt (by omega)) (by omega)
      · intro hlt
        exact Int.mul_lt_mul_of_pos_right (Int.lt_of_mul_lt_mul_right hlt (by omega)) (by omega)
    · exact hsame (sg_is hi (by omega) hall)
/-- the stretches after the first k parts -/
def spTo (L : List (Int × Int)) (lv : Int) : Nat → List (Int × Int)
  | 0 => []
  | k + 1 => spStep (spTo L lv k) (part (L.getD k (0, 0)) (L.getD (k + 1) (0, 0)) lv).1 (part (L.getD k (0, 0)) (L.getD (k + 1) (0, 0)) lv).2
theorem spTo_runs {L : List (Int × Int)} (h : tidesOk L = true) (lv : Int) : ∀ (k : Nat), k + 1 < L.length → spTo L lv (k + 1) = runs (below L lv) (mnt L 0) ((mnt L (k + 1) - mnt L 0).toNat + 1)
  | 0, hk => by
    have hst := mn_step h hk
    rw [spTo, spTo, show (mnt L (0 + 1) - mnt L 0).toNat + 1 = 1 + (mnt L (0 + 1) - mnt L 0).toNat by omega]
    refine runs_step0 (fun m h1 h2 => ?_) (fun hle => ?_)
    · rw [below_seg h hk lv h1 (by omega)]
      exact part_is hst (lvl_ne h hk) h1 (by have : mnt L (0 + 1) = (L.getD (0 + 1) (0, 0)).1 := rfl; omega)
    · have := part_in hle
      have e1 : mnt L (0 + 1) = (L.getD (0 + 1) (0, 0)).1 := rfl
      have e2 : mnt L 0 = (L.getD 0 (0, 0)).1 := rfl
      omega
  | k + 1, hk => by
    have hst := mn_step h hk
    have h0 := mn_lt h (show 0 ≤ k + 1 by omega) (show k + 1 < L.length by omega)
    rw [spTo, spTo_runs h lv k (by omega)]
    rw [show (mnt L (k + 1 + 1) - mnt L 0).toNat + 1 = (mnt L (k + 1) - mnt L 0).toNat + 1 + (mnt L (k + 1 + 1) - mnt L (k + 1)).toNat by omega]
    have e1 : mnt L (k + 1 + 1) = (L.getD (k + 1 + 1) (0, 0)).1 := rfl
    have e2 : mnt L (k + 1) = (L.getD (k + 1) (0, 0)).1 := rfl
    refine runs_step (fun m h1 h2 => ?_) (fun hle => ?_)
    · rw [below_seg h hk lv (by omega) (by omega)]
      exact part_is hst (lvl_ne h hk) (by omega) (by omega)
    · have := part_in hle
      omega
/-- all stretches of minutes below a level -/
def spells (L : List (Int × Int)) (lv : Int) : List (Int × Int) := runs (below L lv) (mnt L 0) ((mnt L (L.length - 1) - mnt L 0).toNat + 1)
theorem spTo_all {L : List (Int × Int)} (h : tidesOk L = true) (lv : Int) : spTo L lv (L.length - 1) = spells L lv := by
  have hl := tidesOk_len h
  have := spTo_runs h lv (L.length - 2) (by omega)
  rw [show L.length - 2 + 1 = L.length - 1 by omega] at this
  exact this

end Go.Proofs.Ytdmiajgcofapkaa
