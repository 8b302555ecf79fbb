/- Stable sorting by blocks and merging in place, plainly. -/
import Derived.Sort.LotA
namespace Go.Proofs.Ytcdpgdpabmlpdaa
open Go.Sort

section
variable {α : Type}
/-- 'less', ties broken by the places that the elements had -/
def lt2 (lt : α → α → Bool) (pos : α → Int) (x y : α) : Bool := lt x y || (!lt y x && decide (pos x < pos y))
variable {lt : α → α → Bool} {pos : α → Int}
theorem lt2_f {x y : α} : lt2 lt pos x y = false ↔ lt x y = false ∧ (lt y x = true ∨ pos y ≤ pos x) := by
  unfold lt2
  cases lt x y <;> cases lt y x <;> simp
theorem swo_asym (hS : SWO lt) {x y : α} (h : lt x y = true) : lt y x = false := by
  cases hy : lt y x with
  | false => rfl
  | true => have := hS.trans x y x h hy; rw [hS.irrefl] at this; cases this
theorem lt2_swo (hS : SWO lt) : SWO (lt2 lt pos) where
  irrefl x := lt2_f.2 ⟨hS.irrefl x, .inr (Int.le_refl _)⟩
  trans x y z h1 h2 := by
    cases h : lt2 lt pos x z with
    | true => rfl
    | false =>
      obtain ⟨a, b⟩ := lt2_f.1 h
      unfold lt2 at h1 h2
      simp only [Bool.or_eq_true, Bool.and_eq_true, Bool.not_eq_true', decide_eq_true_eq] at h1 h2
      have n := fun u v w => hS.ntrans u v w
      rcases h1 with h1 | ⟨h1, p1⟩
      · rcases h2 with h2 | ⟨h2, p2⟩
        · rw [hS.trans _ _ _ h1 h2] at a; cases a
        · have := hS.ntrans x z y a h2; rw [h1] at this; cases this
      · rcases h2 with h2 | ⟨h2, p2⟩
        · have := hS.ntrans y x z h1 a; rw [h2] at this; cases this
        · have h3 := hS.ntrans z y x h2 h1
          rcases b with b | b
          · rw [h3] at b; cases b
          · omega
  ntrans x y z h1 h2 := by
    obtain ⟨a1, b1⟩ := lt2_f.1 h1
    obtain ⟨a2, b2⟩ := lt2_f.1 h2
    refine lt2_f.2 ⟨hS.ntrans _ _ _ a1 a2, ?_⟩
    cases hz : lt z x with
    | true => exact .inl rfl
    | false =>
      right
      rcases b1 with b1 | b1
      · have := hS.ntrans y z x a2 hz; rw [b1] at this; cases this
      · rcases b2 with b2 | b2
        · have := hS.ntrans z x y hz a1; rw [b2] at this; cases this
        · omega
/-- an earlier one that is not beaten -/
theorem le2_of {x y : α} (hp : pos x < pos y) (h : lt y x = false) : lt2 lt pos y x = false := lt2_f.2 ⟨h, .inr (by omega)⟩
theorem le2_lt (hS : SWO lt) {x y : α} (h : lt y x = true) : lt2 lt pos x y = false := lt2_f.2 ⟨swo_asym hS h, .inl h⟩

variable [Inhabited α]
abbrev Srt (lt : α → α → Bool) (pos : α → Int) (d : Array α) (a b : Nat) : Prop := SortedIn (lt2 lt pos) a b d
/-- every place ahead of m stood ahead of every place from m on -/
def Crs (pos : α → Int) (d : Array α) (a m b : Nat) : Prop := ∀ i j, a ≤ i → i < m → m ≤ j → j < b → pos d[i]! < pos d[j]!

/-! ### The insertion sort -/
theorem insInner_perm (lt : α → α → Bool) (a b : Nat) : ∀ (j : Nat) (d : Array α), j < b → b ≤ d.size → PermIn a b d (insInner lt a j d)
  | 0, d, _, _ => by unfold insInner; exact permIn_refl d a b
  | j + 1, d, hj, hb => by
    unfold insInner
    split
    · rename_i hc
      simp only [Bool.and_eq_true, decide_eq_true_eq] at hc
      exact permIn_trans _ _ _ a b (swp_permIn d a b (j + 1) j (by omega) hj (by omega) (by omega) hb) (insInner_perm lt a b j _ (by omega) (by rw [Sort.size_swp]; exact hb))
    · exact permIn_refl d a b
theorem insInner_same (a : Nat) : ∀ (j : Nat) (d : Array α), j < d.size → (∀ k, a ≤ k → k < j → pos d[k]! < pos d[j]!) → insInner lt a j d = insInner (lt2 lt pos) a j d
  | 0, d, _, _ => by unfold insInner; rfl
  | j + 1, d, hs, h => by
    unfold insInner
    by_cases hj : j + 1 > a
    · have hp := h j (by omega) (by omega)
      have e : lt2 lt pos d[j + 1]! d[j]! = lt d[j + 1]! d[j]! := by
        unfold lt2
        rw [decide_eq_false (show ¬ pos d[j + 1]! < pos d[j]! by omega), Bool.and_false, Bool.or_false]
      rw [e]
      split
      · refine insInner_same a j _ (by rw [Sort.size_swp]; omega) ?_
        intro k h1 h2
        rw [swp_right d (j + 1) j (by omega), swp_other d (j + 1) j k (by omega) (by omega)]
        exact h k h1 (by omega)
      · rfl
    · rw [decide_eq_false hj, Bool.false_and, Bool.false_and]; rfl
theorem insOuter_same (a b : Nat) : ∀ (n i : Nat) (d : Array α), b - i = n → b ≤ d.size → (∀ k l, a ≤ k → k < l → i ≤ l → l < b → pos d[k]! < pos d[l]!) → insOuter lt a b i d = insOuter (lt2 lt pos) a b i d
  | 0, i, d, hn, _, _ => by
    rw [insOuter, if_neg (by omega), insOuter, if_neg (by omega)]
  | n + 1, i, d, hn, hb, h => by
    have hlt : i < b := by omega
    rw [show insOuter lt a b i d = insOuter lt a b (i + 1) (insInner lt a i d) by rw [insOuter, if_pos hlt], show insOuter (lt2 lt pos) a b i d = insOuter (lt2 lt pos) a b (i + 1) (insInner (lt2 lt pos) a i d) by rw [insOuter, if_pos hlt], insInner_same (pos := pos) a i d (by omega) (fun k h1 h2 => h k i h1 h2 (Nat.le_refl _) hlt)]
    have hp := insInner_perm (lt2 lt pos) a (i + 1) i d (by omega) (by omega)
    refine insOuter_same a b n (i + 1) _ (by omega) (by rw [hp.1]; exact hb) ?_
    intro k l h1 h2 h3 h4
    rw [hp.2.1 l (by omega)]
    by_cases hk : k < i + 1
    · exact permIn_all d _ a (i + 1) (fun x => pos x < pos d[l]!) (by omega) hp (fun q h5 h6 => h q l h5 (by omega) (by omega) h4) k h1 hk
    · rw [hp.2.1 k (by omega)]
      exact h k l h1 h2 (by omega) h4
/-- sorting by insertion what stands in its first order -/
theorem ins_srt (hS : SWO lt) (d : Array α) (a b : Nat) (hab : a ≤ b) (hb : b ≤ d.size) (h : ∀ k l, a ≤ k → k < l → l < b → pos d[k]! < pos d[l]!) : PermIn a b d (insertionSort lt d a b) ∧ Srt lt pos (insertionSort lt d a b) a b := by
  have e : insertionSort lt d a b = insertionSort (lt2 lt pos) d a b := insOuter_same a b _ (a + 1) d rfl hb (fun k l h1 h2 _ h4 => h k l h1 h2 h4)
  rw [e]
  exact insertionSort_holds (lt2_swo hS) d a b hab hb

/-! ### Exchanging two rows of one length -/
def swF (f : Nat → α) (a b n k : Nat) : α := if a ≤ k ∧ k < a + n then f (k - a + b) else if b ≤ k ∧ k < b + n then f (k - b + a) else f k
omit [Inhabited α] in
theorem sw_zero (f : Nat → α) (a b k : Nat) : swF f a b 0 k = f k := by
  unfold swF
  rw [if_neg (by omega), if_neg (by omega)]
theorem sw_step {d c : Array α} {a b n k : Nat} (hab : a + n ≤ b) (hk : k < n) (hb : b + n ≤ d.size) (hc : c.size = d.size) (h : ∀ q, c[q]! = swF (fun x => d[x]!) a b k q) : ∀ q, (swp c (a + k) (b + k))[q]! = swF (fun x => d[x]!) a b (k + 1) q := by
  intro q
  by_cases h1 : q = a + k
  · subst h1
    rw [swp_left c _ _ (by omega) (by omega), h]
    unfold swF
    rw [if_neg (by omega), if_neg (by omega), if_pos (by omega)]
    congr 1; omega
  · by_cases h2 : q = b + k
    · subst h2
      rw [swp_right c _ _ (by omega), h]
      unfold swF
      rw [if_neg (by omega), if_neg (by omega), if_neg (by omega), if_pos (by omega)]
      congr 1; omega
    · rw [swp_other c _ _ _ h1 h2, h]
      unfold swF
      by_cases h3 : a ≤ q ∧ q < a + k
      · rw [if_pos h3, if_pos (by omega)]
      · rw [if_neg h3, if_neg (show ¬ (a ≤ q ∧ q < a + (k + 1)) by omega)]
        by_cases h4 : b ≤ q ∧ q < b + k
        · rw [if_pos h4, if_pos (by omega)]
        · rw [if_neg h4, if_neg (by omega)]

/-! ### Turning two neighbours round -/
def rotF (f : Nat → α) (a m b k : Nat) : α := if a ≤ k ∧ k < b then (if k < a + (b - m) then f (k + (m - a)) else f (k - (b - m))) else f k
omit [Inhabited α] in
theorem rot_left (f : Nat → α) {m i j : Nat} (hi : i ≤ m) (hj : j < i) (k : Nat) : rotF (swF f (m - i) m j) (m - (i - j)) m (m + j) k = rotF f (m - i) m (m + j) k := by
  unfold rotF
  by_cases h1 : m - i ≤ k ∧ k < m + j
  · rw [if_pos h1]
    by_cases h2 : k < m - i + (m + j - m)
    · rw [if_pos h2, if_neg (by omega)]
      unfold swF
      rw [if_pos (by omega)]
      congr 1; omega
    · rw [if_neg h2, if_pos (show m - (i - j) ≤ k ∧ k < m + j by omega)]
      by_cases h3 : k < m - (i - j) + (m + j - m)
      · rw [if_pos h3]
        unfold swF
        by_cases h4 : k + (m - (m - (i - j))) < m
        · rw [if_neg (by omega), if_neg (by omega)]
          congr 1; omega
        · rw [if_neg (by omega), if_pos (by omega)]
          congr 1; omega
      · rw [if_neg h3]
        unfold swF
        rw [if_neg (by omega), if_neg (by omega)]
  · rw [if_neg h1, if_neg (by omega)]
    unfold swF
    rw [if_neg (by omega), if_neg (by omega)]
omit [Inhabited α] in
theorem rot_right (f : Nat → α) {m i j : Nat} (hi : i ≤ m) (hj : i < j) (k : Nat) : rotF (swF f (m - i) (m + j - i) i) (m - i) m (m + (j - i)) k = rotF f (m - i) m (m + j) k := by
  unfold rotF
  by_cases h1 : m - i ≤ k ∧ k < m + j
  · rw [if_pos h1]
    by_cases h0 : k < m + (j - i)
    · rw [if_pos (show m - i ≤ k ∧ k < m + (j - i) by omega)]
      by_cases h2 : k < m - i + (m + (j - i) - m)
      · rw [if_pos h2, if_pos (by omega)]
        unfold swF
        rw [if_neg (by omega), if_neg (by omega)]
      · rw [if_neg h2]
        unfold swF
        rw [if_pos (by omega)]
        by_cases h3 : k < m - i + (m + j - m)
        · rw [if_pos h3]; congr 1; omega
        · omega
    · rw [if_neg (by omega)]
      unfold swF
      rw [if_neg (by omega), if_pos (by omega), if_neg (by omega)]
      congr 1; omega
  · rw [if_neg h1, if_neg (by omega)]
    unfold swF
    rw [if_neg (by omega), if_neg (by omega)]
omit [Inhabited α] in
theorem rot_last (f : Nat → α) {m i : Nat} (hi : i ≤ m) (k : Nat) : swF f (m - i) m i k = rotF f (m - i) m (m + i) k := by
  unfold rotF swF
  by_cases h1 : m - i ≤ k ∧ k < m - i + i
  · rw [if_pos h1, if_pos (by omega), if_pos (by omega)]; congr 1; omega
  · rw [if_neg h1]
    by_cases h2 : m ≤ k ∧ k < m + i
    · rw [if_pos h2, if_pos (by omega), if_neg (by omega)]; congr 1; omega
    · rw [if_neg h2, if_neg (by omega)]

/-! ### Bringing one element to its place -/
def mvR (f : Nat → α) (a k q : Nat) : α := if a ≤ q ∧ q < k then f (q + 1) else if q = k then f a else f q
omit [Inhabited α] in
theorem mvR_zero (f : Nat → α) (a q : Nat) : mvR f a a q = f q := by
  unfold mvR
  rw [if_neg (by omega)]
  split
  · rename_i h; rw [h]
  · rfl
theorem mvR_step {d c : Array α} {a k : Nat} (ha : a ≤ k) (hk : k + 1 < d.size) (hc : c.size = d.size) (h : ∀ q, c[q]! = mvR (fun x => d[x]!) a k q) : ∀ q, (swp c k (k + 1))[q]! = mvR (fun x => d[x]!) a (k + 1) q := by
  intro q
  by_cases h1 : q = k
  · subst h1
    rw [swp_left c _ _ (by omega) (by omega), h]
    unfold mvR
    rw [if_neg (by omega), if_neg (by omega), if_pos (by omega)]
  · by_cases h2 : q = k + 1
    · subst h2
      rw [swp_right c _ _ (by omega), h]
      unfold mvR
      rw [if_neg (by omega), if_pos rfl, if_neg (by omega), if_pos rfl]
    · rw [swp_other c _ _ _ h1 h2, h]
      unfold mvR
      by_cases h3 : a ≤ q ∧ q < k
      · rw [if_pos h3, if_pos (by omega)]
      · rw [if_neg h3, if_neg h1, if_neg (by omega), if_neg h2]
theorem mvR_srt (hS : SWO lt) {d c : Array α} {a i b : Nat} (hm : a + 1 ≤ i) (hi : i ≤ b) (hv : ∀ q, c[q]! = mvR (fun x => d[x]!) a (i - 1) q) (hs : Srt lt pos d (a + 1) b)
    (hc : ∀ j, a + 1 ≤ j → j < b → pos d[a]! < pos d[j]!) (h1 : ∀ j, a + 1 ≤ j → j < i → lt d[j]! d[a]! = true) (h2 : ∀ j, i ≤ j → j < b → lt d[j]! d[a]! = false) : Srt lt pos c a b := by
  intro p q hp hpq hq
  rw [hv, hv]
  unfold mvR
  by_cases p1 : p < i - 1
  · rw [if_pos (show a ≤ p ∧ p < i - 1 by omega)]
    by_cases q1 : q < i - 1
    · rw [if_pos (by omega)]; exact hs _ _ (by omega) (by omega) (by omega)
    · rw [if_neg (by omega)]
      by_cases q2 : q = i - 1
      · rw [if_pos q2]; exact le2_lt hS (h1 _ (by omega) (by omega))
      · rw [if_neg q2]; exact hs _ _ (by omega) (by omega) (by omega)
  · rw [if_neg (show ¬ (a ≤ p ∧ p < i - 1) by omega), if_neg (show ¬ (a ≤ q ∧ q < i - 1) by omega), if_neg (show ¬ q = i - 1 by omega)]
    by_cases p2 : p = i - 1
    · rw [if_pos p2]; exact le2_of (hc _ (by omega) (by omega)) (h2 _ (by omega) (by omega))
    · rw [if_neg p2]; exact hs _ _ (by omega) (by omega) (by omega)
def mvL (f : Nat → α) (m k q : Nat) : α := if k < q ∧ q ≤ m then f (q - 1) else if q = k then f m else f q
omit [Inhabited α] in
theorem mvL_zero (f : Nat → α) (m q : Nat) : mvL f m m q = f q := by
  unfold mvL
  rw [if_neg (by omega)]
  split
  · rename_i h; rw [h]
  · rfl
theorem mvL_step {d c : Array α} {m k : Nat} (h0 : 0 < k) (ha : k ≤ m) (hk : m < d.size) (hc : c.size = d.size) (h : ∀ q, c[q]! = mvL (fun x => d[x]!) m k q) : ∀ q, (swp c k (k - 1))[q]! = mvL (fun x => d[x]!) m (k - 1) q := by
  intro q
  by_cases h1 : q = k
  · subst h1
    rw [swp_left c _ _ (by omega) (by omega), h]
    unfold mvL
    rw [if_neg (by omega), if_neg (by omega), if_pos (by omega)]
  · by_cases h2 : q = k - 1
    · subst h2
      rw [swp_right c _ _ (by omega), h]
      unfold mvL
      rw [if_neg (by omega), if_pos rfl, if_neg (by omega), if_pos rfl]
    · rw [swp_other c _ _ _ h1 h2, h]
      unfold mvL
      by_cases h3 : k < q ∧ q ≤ m
      · rw [if_pos h3, if_pos (by omega)]
      · rw [if_neg h3, if_neg h1, if_neg (by omega), if_neg h2]
theorem mvL_srt (hS : SWO lt) {d c : Array α} {a i m : Nat} (ha : a ≤ i) (hi : i ≤ m) (hv : ∀ q, c[q]! = mvL (fun x => d[x]!) m i q) (hs : Srt lt pos d a m)
    (hc : ∀ j, a ≤ j → j < m → pos d[j]! < pos d[m]!) (h1 : ∀ j, a ≤ j → j < i → lt d[m]! d[j]! = false) (h2 : ∀ j, i ≤ j → j < m → lt d[m]! d[j]! = true) : Srt lt pos c a (m + 1) := by
  intro p q hp hpq hq
  rw [hv, hv]
  unfold mvL
  by_cases q1 : i < q
  · rw [if_pos (show i < q ∧ q ≤ m by omega)]
    by_cases p1 : i < p
    · rw [if_pos (by omega)]; exact hs _ _ (by omega) (by omega) (by omega)
    · rw [if_neg (by omega)]
      by_cases p2 : p = i
      · rw [if_pos p2]; exact le2_lt hS (h2 _ (by omega) (by omega))
      · rw [if_neg p2]; exact hs _ _ (by omega) (by omega) (by omega)
  · rw [if_neg (show ¬ (i < q ∧ q ≤ m) by omega), if_neg (show ¬ (i < p ∧ p ≤ m) by omega), if_neg (show ¬ p = i by omega)]
    by_cases q2 : q = i
    · rw [if_pos q2]; exact le2_of (hc _ (by omega) (by omega)) (h1 _ (by omega) (by omega))
    · rw [if_neg q2]; exact hs _ _ (by omega) (by omega) (by omega)
/-! the binary searches -/
theorem find_up (hS : SWO lt) {d : Array α} {a h b : Nat} (hs : Srt lt pos d (a + 1) b) (hb : h < b) (hl : lt d[h]! d[a]! = true) : ∀ j, a + 1 ≤ j → j < h + 1 → lt d[j]! d[a]! = true := by
  intro j h1 h2
  by_cases e : j = h
  · rw [e]; exact hl
  · cases hj : lt d[j]! d[a]! with
    | true => rfl
    | false =>
      have := hS.ntrans _ _ _ (lt2_f.1 (hs j h h1 (by omega) hb)).1 hj
      rw [hl] at this; cases this
theorem find_down (hS : SWO lt) {d : Array α} {a h b : Nat} (hs : Srt lt pos d (a + 1) b) (h0 : a + 1 ≤ h) (hl : lt d[h]! d[a]! = false) : ∀ j, h ≤ j → j < b → lt d[j]! d[a]! = false := by
  intro j h1 h2
  by_cases e : j = h
  · rw [e]; exact hl
  · exact hS.ntrans _ _ _ (lt2_f.1 (hs h j h0 (by omega) h2)).1 hl
theorem find2_up (hS : SWO lt) {d : Array α} {a h m : Nat} (hs : Srt lt pos d a m) (hb : h < m) (hl : lt d[m]! d[h]! = false) : ∀ j, a ≤ j → j < h + 1 → lt d[m]! d[j]! = false := by
  intro j h1 h2
  by_cases e : j = h
  · rw [e]; exact hl
  · exact hS.ntrans _ _ _ hl (lt2_f.1 (hs j h h1 (by omega) hb)).1
theorem find2_down (hS : SWO lt) {d : Array α} {a h m : Nat} (hs : Srt lt pos d a m) (h0 : a ≤ h) (hl : lt d[m]! d[h]! = true) : ∀ j, h ≤ j → j < m → lt d[m]! d[j]! = true := by
  intro j h1 h2
  by_cases e : j = h
  · rw [e]; exact hl
  · cases hj : lt d[m]! d[j]! with
    | true => rfl
    | false =>
      have := hS.ntrans _ _ _ hj (lt2_f.1 (hs h j h0 (by omega) h2)).1
      rw [hl] at this; cases this

/-! ### Merging -/
/-- all ahead of s may stay ahead of all from n - s on -/
def HA (lt : α → α → Bool) (pos : α → Int) (d : Array α) (a b n s : Nat) : Prop := ∀ i j, a ≤ i → i < s → n - s ≤ j → j < b → lt2 lt pos d[j]! d[i]! = false
/-- all between m and n - r go ahead of all from r on -/
def HB (lt : α → α → Bool) (pos : α → Int) (d : Array α) (m n r : Nat) : Prop := ∀ i j, r ≤ i → i < m → m ≤ j → j < n - r → lt2 lt pos d[i]! d[j]! = false
theorem HA_step (hS : SWO lt) {d : Array α} {a m b n c : Nat} (h1 : Srt lt pos d a m) (h2 : Srt lt pos d m b) (hx : Crs pos d a m b) (hac : a ≤ c) (hcm : c < m) (hpm : m ≤ n - 1 - c) (hpb : n - 1 - c < b) (hl : lt d[n - 1 - c]! d[c]! = false) : HA lt pos d a b n (c + 1) := by
  intro i j ha hi hj hb
  have hO := lt2_swo (lt := lt) (pos := pos) hS
  have e0 : lt2 lt pos d[n - 1 - c]! d[c]! = false := le2_of (hx c (n - 1 - c) hac hcm hpm hpb) hl
  have e1 : lt2 lt pos d[n - 1 - c]! d[i]! = false := by
    by_cases e : i = c
    · rw [e]; exact e0
    · exact hO.ntrans _ _ _ e0 (h1 i c ha (by omega) hcm)
  by_cases e : j = n - 1 - c
  · rw [e]; exact e1
  · exact hO.ntrans _ _ _ (h2 (n - 1 - c) j hpm (by omega) hb) e1
theorem HB_step (hS : SWO lt) {d : Array α} {a m b n c : Nat} (h1 : Srt lt pos d a m) (h2 : Srt lt pos d m b) (hac : a ≤ c) (hpb : n - 1 - c < b) (hl : lt d[n - 1 - c]! d[c]! = true) : HB lt pos d m n c := by
  intro i j hr hi hm hj
  have hO := lt2_swo (lt := lt) (pos := pos) hS
  have e0 : lt2 lt pos d[c]! d[n - 1 - c]! = false := le2_lt hS hl
  have e1 : lt2 lt pos d[c]! d[j]! = false := by
    by_cases e : j = n - 1 - c
    · rw [e]; exact e0
    · exact hO.ntrans _ _ _ e0 (h2 j (n - 1 - c) hm (by omega) hpb)
  by_cases e : i = c
  · rw [e]; exact e1
  · exact hO.ntrans _ _ _ (h1 c i hac (by omega) hi) e1
/-- what stands behind the turning round -/
structure Halves (lt : α → α → Bool) (pos : α → Int) (d : Array α) (a s mid e b : Nat) : Prop where
  l1 : Srt lt pos d a s
  l2 : Srt lt pos d s mid
  lx : Crs pos d a s mid
  r1 : Srt lt pos d mid e
  r2 : Srt lt pos d e b
  rx : Crs pos d mid e b
  lr : ∀ i j, a ≤ i → i < mid → mid ≤ j → j < b → lt2 lt pos d[j]! d[i]! = false
theorem halves_of {d c : Array α} {a m b s mid e : Nat} (h1 : Srt lt pos d a m) (h2 : Srt lt pos d m b) (hx : Crs pos d a m b) (has : a ≤ s) (hsm : s ≤ m) (hme : m ≤ e) (heb : e ≤ b) (hen : e + s = mid + m) (hA : HA lt pos d a b (mid + m) s) (hB : HB lt pos d m (mid + m) s)
    (hv : ∀ q, c[q]! = rotF (fun x => d[x]!) s m e q) : Halves lt pos c a s mid e b := by
  have v0 : ∀ q, q < s → c[q]! = d[q]! := fun q h => by rw [hv]; unfold rotF; rw [if_neg (by omega)]
  have v1 : ∀ q, s ≤ q → q < mid → c[q]! = d[q + (m - s)]! := fun q h h' => by rw [hv]; unfold rotF; rw [if_pos (by omega), if_pos (by omega)]
  have v2 : ∀ q, mid ≤ q → q < e → c[q]! = d[q - (e - m)]! := fun q h h' => by rw [hv]; unfold rotF; rw [if_pos (by omega), if_neg (by omega)]
  have v3 : ∀ q, e ≤ q → c[q]! = d[q]! := fun q h => by rw [hv]; unfold rotF; rw [if_neg (by omega)]
  refine ⟨fun i j p1 p2 p3 => ?_, fun i j p1 p2 p3 => ?_, fun i j p1 p2 p3 p4 => ?_, fun i j p1 p2 p3 => ?_, fun i j p1 p2 p3 => ?_, fun i j p1 p2 p3 p4 => ?_, fun i j p1 p2 p3 p4 => ?_⟩
  · rw [v0 i (by omega), v0 j p3]; exact h1 i j p1 p2 (by omega)
  · rw [v1 i p1 (by omega), v1 j (by omega) p3]; exact h2 _ _ (by omega) (by omega) (by omega)
  · rw [v0 i p2, v1 j p3 p4]; exact hx _ _ p1 (by omega) (by omega) (by omega)
  · rw [v2 i p1 (by omega), v2 j (by omega) p3]; exact h1 _ _ (by omega) (by omega) (by omega)
  · rw [v3 i p1, v3 j (by omega)]; exact h2 _ _ (by omega) p2 p3
  · rw [v2 i p1 p2, v3 j p3]; exact hx _ _ (by omega) (by omega) (by omega) p4
  · by_cases q1 : i < s
    · rw [v0 i q1]
      by_cases q2 : j < e
      · rw [v2 j p3 q2]; exact h1 _ _ p1 (by omega) (by omega)
      · rw [v3 j (by omega)]; exact hA _ _ p1 q1 (by omega) p4
    · rw [v1 i (by omega) p2]
      by_cases q2 : j < e
      · rw [v2 j p3 q2]; exact hB _ _ (by omega) (by omega) (by omega) (by omega)
      · rw [v3 j (by omega)]; exact h2 _ _ (by omega) (by omega) p4
omit [Inhabited α] in
theorem rot_idl (f : Nat → α) (m e q : Nat) : rotF f m m e q = f q := by
  unfold rotF
  split
  · rw [if_pos (by omega)]; congr 1; omega
  · rfl
omit [Inhabited α] in
theorem rot_idr (f : Nat → α) (s m q : Nat) : rotF f s m m q = f q := by
  unfold rotF
  split
  · rw [if_neg (by omega)]; congr 1; omega
  · rfl
theorem srt_keep {d c : Array α} {x y a b : Nat} (h : Srt lt pos d x y) (hp : PermIn a b d c) (hd : y ≤ a ∨ b ≤ x) : Srt lt pos c x y := fun i j p1 p2 p3 => by
  rw [hp.2.1 i (by omega), hp.2.1 j (by omega)]; exact h i j p1 p2 p3
theorem crs_keep {d c : Array α} {x m y a b : Nat} (h : Crs pos d x m y) (hp : PermIn a b d c) (hd : y ≤ a ∨ b ≤ x) : Crs pos c x m y := fun i j p1 p2 p3 p4 => by
  rw [hp.2.1 i (by omega), hp.2.1 j (by omega)]; exact h i j p1 p2 p3 p4
theorem join_srt {d c e' : Array α} {a mid b : Nat} (ha : a ≤ mid) (hmb : mid ≤ b) (hb : b ≤ d.size) (hlr : ∀ i j, a ≤ i → i < mid → mid ≤ j → j < b → lt2 lt pos d[j]! d[i]! = false) (p1 : PermIn a mid d c) (s1 : Srt lt pos c a mid) (p2 : PermIn mid b c e') (s2 : Srt lt pos e' mid b) : PermIn a b d e' ∧ Srt lt pos e' a b := by
  have hbc : b ≤ c.size := by rw [p1.1]; exact hb
  refine ⟨permIn_trans _ _ _ a b (permIn_mono _ _ a mid a b (Nat.le_refl _) hmb hb p1) (permIn_mono _ _ mid b a b ha (Nat.le_refl _) hbc p2), ?_⟩
  intro i j q1 q2 q3
  by_cases hi : i < mid
  · rw [p2.2.1 i (.inl hi)]
    by_cases hj : j < mid
    · rw [p2.2.1 j (.inl hj)]; exact s1 i j q1 q2 hj
    · refine permIn_all c e' mid b (fun y => lt2 lt pos y c[i]! = false) hbc p2 (fun y y1 y2 => ?_) j (by omega) q3
      show lt2 lt pos c[y]! c[i]! = false
      rw [p1.2.1 y (.inr y1)]
      exact permIn_all d c a mid (fun x => lt2 lt pos d[y]! x = false) (by omega) p1 (fun x x1 x2 => hlr x y x1 x2 y1 y2) i q1 hi
  · exact s2 i j (by omega) q2 q3

/-! ### The rows of blocks -/
inductive Blks (lt : α → α → Bool) (pos : α → Int) (d : Array α) (bs n : Nat) : Nat → Prop
  | last {a : Nat} (h : n ≤ a + bs) (s : Srt lt pos d a n) : Blks lt pos d bs n a
  | cons {a : Nat} (h : a + bs ≤ n) (s : Srt lt pos d a (a + bs)) (c : Crs pos d a (a + bs) n) (r : Blks lt pos d bs n (a + bs)) : Blks lt pos d bs n a
theorem blks_two {d : Array α} {bs n a : Nat} (h : Blks lt pos d bs n a) (hb : 0 < bs) (h2 : a + 2 * bs ≤ n) : Srt lt pos d a (a + bs) ∧ Srt lt pos d (a + bs) (a + 2 * bs) ∧ Crs pos d a (a + bs) n ∧ (a + 2 * bs < n → Crs pos d (a + bs) (a + 2 * bs) n ∧ Blks lt pos d bs n (a + 2 * bs)) := by
  cases h with
  | last h s => exact absurd h (by omega)
  | cons h s c r =>
    refine ⟨s, ?_, c, ?_⟩
    · cases r with
      | last h' s' => exact fun i j p1 p2 p3 => s' i j p1 p2 (by omega)
      | cons h' s' c' r' => rw [show a + 2 * bs = a + bs + bs by omega]; exact s'
    · intro hlt
      cases r with
      | last h' s' => exact absurd h' (by omega)
      | cons h' s' c' r' => rw [show a + 2 * bs = a + bs + bs by omega]; exact ⟨c', r'⟩
theorem blks_one {d : Array α} {bs n a : Nat} (h : Blks lt pos d bs n a) (h1 : a + bs < n) : Srt lt pos d a (a + bs) ∧ Crs pos d a (a + bs) n ∧ (n ≤ a + 2 * bs → Srt lt pos d (a + bs) n) := by
  cases h with
  | last h s => exact absurd h (by omega)
  | cons h s c r =>
    refine ⟨s, c, fun h2 => ?_⟩
    cases r with
    | last h' s' => exact s'
    | cons h' s' c' r' => rw [show n = a + bs + bs by omega]; exact s'
theorem blks_rest {d : Array α} {bs n a : Nat} (h : Blks lt pos d bs n a) (h1 : n ≤ a + bs) : Srt lt pos d a n := by
  cases h with
  | last h s => exact s
  | cons h' s c r => rw [show n = a + bs by omega]; exact s
theorem blks_keep {d c : Array α} {bs n a x y : Nat} (hp : PermIn x y d c) (h : Blks lt pos d bs n a) (hy : y ≤ a) : Blks lt pos c bs n a := by
  induction h with
  | last h s => exact .last h (srt_keep s hp (.inr hy))
  | cons h s c' r ih => exact .cons h (srt_keep s hp (.inr hy)) (crs_keep c' hp (.inr hy)) (ih (by omega))
/-- what is done ahead of a: whatever comes of the rest, there are blocks -/
def Done (lt : α → α → Bool) (pos : α → Int) (d : Array α) (bs n a : Nat) : Prop := ∀ c, PermIn a n d c → Blks lt pos c bs n a → Blks lt pos c bs n 0
theorem done_zero (d : Array α) (bs n : Nat) : Done lt pos d bs n 0 := fun _ _ h => h
theorem done_step {d c : Array α} {bs n a : Nat} (hd : Done lt pos d bs n a) (hn : a + bs ≤ n) (hb : n ≤ d.size) (hx : Crs pos d a (a + bs) n) (hp : PermIn a (a + bs) d c) (hs : Srt lt pos c a (a + bs)) : Done lt pos c bs n (a + bs) := by
  intro e he hB
  have hbc : n ≤ c.size := by rw [hp.1]; exact hb
  refine hd e (permIn_trans _ _ _ a n (permIn_mono _ _ a (a + bs) a n (Nat.le_refl _) hn hb hp) (permIn_mono _ _ (a + bs) n a n (by omega) (Nat.le_refl _) hbc he)) (.cons hn (srt_keep hs he (.inl (Nat.le_refl _))) ?_ hB)
  intro i j p1 p2 p3 p4
  rw [he.2.1 i (.inl p2)]
  refine permIn_all c e (a + bs) n (fun y => pos c[i]! < pos y) hbc he (fun y y1 y2 => ?_) j p3 p4
  show pos c[i]! < pos c[y]!
  rw [hp.2.1 y (.inr y1)]
  exact permIn_all d c a (a + bs) (fun x => pos x < pos d[y]!) (by omega) hp (fun x x1 x2 => hx x y x1 x2 y1 y2) i p1 p2
end

end Go.Proofs.Ytcdpgdpabmlpdaa
