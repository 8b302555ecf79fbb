/- Stretches of minutes: found minute by minute, and found part by part. Plain lists and numbers. -/
import Derived.Test.YtdmiajgcofapkaaTide3
namespace Go.Proofs.Ytdmiajgcofapkaa
open Go.RowKit

/-- the last stretch goes on to t -/
def setTo (S : List (Int × Int)) (t : Int) : List (Int × Int) := S.set (S.length - 1) ((S.getD (S.length - 1) (0, 0)).1, t)
theorem setTo_app (S : List (Int × Int)) (x : Int × Int) (t : Int) : setTo (S ++ [x]) t = S ++ [(x.1, t)] := by
  simp [setTo]
theorem setTo_len (S : List (Int × Int)) (t : Int) : (setTo S t).length = S.length := by simp [setTo]
/-- the longest stretches with p among a, a + 1, .., a + n - 1 -/
def runs (p : Int → Bool) (a : Int) : Nat → List (Int × Int)
  | 0 => []
  | n + 1 => if p (a + n) = true then (if n ≠ 0 ∧ p (a + n - 1) = true then setTo (runs p a n) (a + n) else runs p a n ++ [(a + n, a + n)]) else runs p a n
section
variable {p : Int → Bool} {a : Int}
theorem runs_no {n : Nat} (h : p (a + n) = false) : runs p a (n + 1) = runs p a n := by rw [runs, if_neg (by rw [h]; simp)]
theorem runs_on {n : Nat} (h : p (a + n) = true) (h2 : n ≠ 0 ∧ p (a + n - 1) = true) : runs p a (n + 1) = setTo (runs p a n) (a + n) := by rw [runs, if_pos h, if_pos h2]
theorem runs_new {n : Nat} (h : p (a + n) = true) (h2 : ¬ (n ≠ 0 ∧ p (a + n - 1) = true)) : runs p a (n + 1) = runs p a n ++ [(a + n, a + n)] := by rw [runs, if_pos h, if_neg h2]
theorem runs_last : ∀ n : Nat, p (a + n) = true → ∃ (S : List (Int × Int)) (x : Int), runs p a (n + 1) = S ++ [(x, a + n)]
  | 0, h => ⟨[], a, by rw [runs_new h (by simp)]; simp [runs]⟩
  | n + 1, h => by
    by_cases h2 : p (a + n) = true
    · obtain ⟨S, x, e⟩ := runs_last n h2
      refine ⟨S, x, ?_⟩
      rw [runs_on h ⟨by simp, by rw [show a + ((n + 1 : Nat) : Int) - 1 = a + n by omega]; exact h2⟩, e, setTo_app]
    · refine ⟨runs p a (n + 1), _, runs_new h (fun h3 => h2 ?_)⟩
      rw [show a + ((n + 1 : Nat) : Int) - 1 = a + n by omega] at h3
      exact h3.2
/-- a run that is found at a minute: how the list stands -/
theorem runs_cases (n : Nat) : (p (a + n) = false ∧ runs p a (n + 1) = runs p a n) ∨ (p (a + n) = true ∧ ∃ (S : List (Int × Int)) (x : Int), runs p a n = S ++ [(x, a + n - 1)] ∧ runs p a (n + 1) = S ++ [(x, a + n)]) ∨ (p (a + n) = true ∧ (n = 0 ∨ p (a + n - 1) = false) ∧ runs p a (n + 1) = runs p a n ++ [(a + n, a + n)]) := by
  by_cases h : p (a + n) = true
  · right
    by_cases h2 : n ≠ 0 ∧ p (a + n - 1) = true
    · left
      obtain ⟨m, rfl⟩ : ∃ m, n = m + 1 := ⟨n - 1, by omega⟩
      rw [show a + ((m + 1 : Nat) : Int) - 1 = a + m by omega] at h2
      obtain ⟨S, x, e⟩ := runs_last m h2.2
      refine ⟨h, S, x, by rw [e, show a + ((m + 1 : Nat) : Int) - 1 = a + m by omega], ?_⟩
      rw [runs_on h ⟨by simp, by rw [show a + ((m + 1 : Nat) : Int) - 1 = a + m by omega]; exact h2.2⟩, e, setTo_app]
    · right
      refine ⟨h, ?_, runs_new h h2⟩
      by_cases hn : n = 0
      · exact .inl hn
      · right
        cases hp : p (a + n - 1)
        · rfl
        · exact absurd ⟨hn, hp⟩ h2
  · left
    have h' : p (a + n) = false := by simpa using h
    exact ⟨h', runs_no h'⟩
theorem runs_bd : ∀ (n : Nat) (s : Int × Int), s ∈ runs p a n → a ≤ s.1 ∧ s.1 ≤ s.2 ∧ s.2 < a + n
  | 0, s, h => by simp [runs] at h
  | n + 1, s, h => by
    have ih := runs_bd n
    rcases runs_cases (p := p) (a := a) n with ⟨_, e⟩ | ⟨_, S, x, e1, e2⟩ | ⟨_, _, e⟩
    · rw [e] at h
      have := ih s h
      omega
    · rw [e2] at h
      rw [e1] at ih
      rcases List.mem_append.1 h with h | h
      · have := ih s (List.mem_append.2 (.inl h)); omega
      · simp only [List.mem_cons, List.not_mem_nil, or_false] at h
        subst h
        have := ih (x, a + n - 1) (by simp)
        simp only at this ⊢
        omega
    · rw [e] at h
      rcases List.mem_append.1 h with h | h
      · have := ih s h; omega
      · simp only [List.mem_cons, List.not_mem_nil, or_false] at h
        subst h
        simp only
        omega
theorem runs_len (n : Nat) : (runs p a n).length ≤ n := by
  induction n with
  | zero => simp [runs]
  | succ n ih =>
    rcases runs_cases (p := p) (a := a) n with ⟨_, e⟩ | ⟨_, S, x, e1, e2⟩ | ⟨_, _, e⟩
    · rw [e]; omega
    · rw [e2]; rw [e1] at ih; simp at ih ⊢; omega
    · rw [e]; simp; omega
theorem runs_A (n : Nat) : ∀ k : Nat, (∀ j : Nat, j < k → p (a + n + j) = false) → runs p a (n + k) = runs p a n
  | 0, _ => rfl
  | k + 1, h => by
    rw [← Nat.add_assoc, runs_no (by rw [show a + ((n + k : Nat) : Int) = a + n + k by omega]; exact h k (by omega))]
    exact runs_A n k (fun j hj => h j (by omega))
theorem runs_B (n : Nat) {S : List (Int × Int)} {x : Int} (h0 : p (a + n) = true) (e : runs p a (n + 1) = S ++ [(x, a + n)]) : ∀ k : Nat, (∀ j : Nat, j < k → p (a + n + 1 + j) = true) → runs p a (n + 1 + k) = S ++ [(x, a + n + k)]
  | 0, _ => by simpa using e
  | k + 1, h => by
    have ih := runs_B n h0 e k (fun j hj => h j (by omega))
    have hp : p (a + ((n + 1 + k : Nat) : Int)) = true := by rw [show a + ((n + 1 + k : Nat) : Int) = a + n + 1 + k by omega]; exact h k (by omega)
    have hp2 : p (a + ((n + 1 + k : Nat) : Int) - 1) = true := by
      rw [show a + ((n + 1 + k : Nat) : Int) - 1 = a + n + k by omega]
      cases k with
      | zero => simpa using h0
      | succ q => have := h q (by omega); rw [show a + (n : Int) + ((q + 1 : Nat) : Int) = a + n + 1 + q by omega]; exact this
    rw [← Nat.add_assoc, runs_on hp ⟨by omega, hp2⟩, ih, setTo_app]
    simp only
    rw [show a + ((n + 1 + k : Nat) : Int) = a + n + ((k + 1 : Nat) : Int) by omega]
theorem runs_C (n k : Nat) (h : ∀ j : Nat, j < k + 1 → p (a + n + j) = true) (h2 : n = 0 ∨ p (a + n - 1) = false) : runs p a (n + 1 + k) = runs p a n ++ [(a + n, a + n + k)] := by
  have h0 : p (a + n) = true := by simpa using h 0 (by omega)
  refine runs_B n h0 (runs_new h0 (fun h3 => ?_)) k (fun j hj => ?_)
  · rcases h2 with h2 | h2
    · exact h3.1 h2
    · rw [h2] at h3; simp at h3
  · have := h (j + 1) (by omega)
    rw [show a + (n : Int) + ((j + 1 : Nat) : Int) = a + n + 1 + j by omega] at this
    exact this
/-- one more part, from f to t, laid to the stretches at hand -/
def spStep (S : List (Int × Int)) (f t : Int) : List (Int × Int) :=
  if t < f then S else if 0 < S.length ∧ f ≤ (S.getD (S.length - 1) (0, 0)).2 + 1 then setTo S t else S ++ [(f, t)]
theorem runs_step {n d : Nat} {f t : Int} (hp : ∀ m : Int, a + n ≤ m → m ≤ a + n + d → (p m = true ↔ f ≤ m ∧ m ≤ t)) (hft : f ≤ t → a + n ≤ f ∧ t ≤ a + n + d) : spStep (runs p a (n + 1)) f t = runs p a (n + 1 + d) := by
  have hno : ∀ m : Int, a + n ≤ m → m ≤ a + n + d → ¬ (f ≤ m ∧ m ≤ t) → p m = false := fun m h1 h2 h3 => by
    cases h : p m
    · rfl
    · exact absurd ((hp m h1 h2).1 h) h3
  have hyes : ∀ m : Int, a + n ≤ m → m ≤ a + n + d → f ≤ m → m ≤ t → p m = true := fun m h1 h2 h3 h4 => (hp m h1 h2).2 ⟨h3, h4⟩
  unfold spStep
  by_cases h : t < f
  · rw [if_pos h]
    exact (runs_A (n + 1) d (fun j hj => hno _ (by omega) (by omega) (by omega))).symm
  rw [if_neg h]
  obtain ⟨h1, h2⟩ := hft (by omega)
  by_cases hf : f = a + n
  · obtain ⟨S, x, e⟩ := runs_last (p := p) (a := a) n (hyes _ (by omega) (by omega) (by omega) (by omega))
    obtain ⟨k, hk⟩ : ∃ k : Nat, t = a + n + k := ⟨(t - (a + n)).toNat, by omega⟩
    obtain ⟨r, hr⟩ : ∃ r : Nat, d = k + r := ⟨d - k, by omega⟩
    have e2 := runs_B n (hyes _ (by omega) (by omega) (by omega) (by omega)) e k (fun j hj => hyes _ (by omega) (by omega) (by omega) (by omega))
    have e3 := runs_A (p := p) (a := a) (n + 1 + k) r (fun j hj => hno _ (by omega) (by omega) (by omega))
    rw [hr, ← Nat.add_assoc, e3, e2, e, if_pos ⟨by simp, by simp; omega⟩, setTo_app, hk]
  · have hpn : p (a + n) = false := hno _ (by omega) (by omega) (by omega)
    have hlast : ¬ (0 < (runs p a (n + 1)).length ∧ f ≤ ((runs p a (n + 1)).getD ((runs p a (n + 1)).length - 1) (0, 0)).2 + 1) := by
      rintro ⟨h3, h4⟩
      rw [runs_no hpn] at h3 h4
      have hk : (runs p a n).length - 1 < (runs p a n).length := by omega
      rw [getD_at (get_at hk)] at h4
      have := runs_bd (p := p) (a := a) n _ (List.getElem_mem hk)
      omega
    rw [if_neg hlast]
    obtain ⟨b, hb⟩ : ∃ b : Nat, f = a + n + 1 + b := ⟨(f - (a + n + 1)).toNat, by omega⟩
    obtain ⟨k, hk⟩ : ∃ k : Nat, t = f + k := ⟨(t - f).toNat, by omega⟩
    obtain ⟨r, hr⟩ : ∃ r : Nat, d = b + 1 + k + r := ⟨d - (b + 1 + k), by omega⟩
    have e1 := runs_A (p := p) (a := a) (n + 1) b (fun j hj => hno _ (by omega) (by omega) (by omega))
    have e2 := runs_C (p := p) (a := a) (n + 1 + b) k (fun j hj => hyes _ (by omega) (by omega) (by omega) (by omega)) (.inr (hno _ (by omega) (by omega) (by omega)))
    have e3 := runs_A (p := p) (a := a) (n + 1 + b + 1 + k) r (fun j hj => hno _ (by omega) (by omega) (by omega))
    rw [hr, show n + 1 + (b + 1 + k + r) = n + 1 + b + 1 + k + r by omega, e3, e2, e1, hk, hb]
    rw [show a + (n : Int) + 1 + b = a + ((n + 1 + b : Nat) : Int) by omega]
theorem runs_step0 {d : Nat} {f t : Int} (hp : ∀ m : Int, a ≤ m → m ≤ a + d → (p m = true ↔ f ≤ m ∧ m ≤ t)) (hft : f ≤ t → a ≤ f ∧ t ≤ a + d) : spStep [] f t = runs p a (1 + d) := by
  have e := runs_step (p := p) (a := a) (n := 0) (d := d) (f := f) (t := t) (fun m h1 h2 => hp m (by omega) (by omega)) (fun h => by have := hft h; omega)
  rw [Nat.zero_add] at e
  rw [← e]
  unfold spStep
  by_cases h : t < f
  · rw [if_pos h, if_pos h]
    have : p (a + ((0 : Nat) : Int)) = false := by
      cases h2 : p (a + ((0 : Nat) : Int))
      · rfl
      · have := (hp _ (by omega) (by omega)).1 h2; omega
    rw [runs_no (n := 0) this, runs]
  rw [if_neg h, if_neg h, if_neg (by simp)]
  obtain ⟨h1, h2⟩ := hft (by omega)
  by_cases hf : f = a
  · have h0 : p (a + ((0 : Nat) : Int)) = true := (hp _ (by omega) (by omega)).2 (by omega)
    have e0 : runs p a (0 + 1) = [(a, a)] := by rw [runs_new h0 (by simp), runs]; simp
    rw [Nat.zero_add] at e0
    rw [e0, if_pos ⟨by simp, by simp; omega⟩]
    simp [setTo, hf]
  · have : p (a + ((0 : Nat) : Int)) = false := by
      cases h2 : p (a + ((0 : Nat) : Int))
      · rfl
      · have := (hp _ (by omega) (by omega)).1 h2; omega
    have e0 : runs p a 1 = [] := by rw [runs_no (n := 0) this, runs]
    rw [e0, if_neg (by simp)]
/-- each minute with p lies in a stretch, and each minute of a stretch has p; the stretches rise -/
theorem runs_sound : ∀ (n : Nat) (s : Int × Int), s ∈ runs p a n → ∀ m, s.1 ≤ m → m ≤ s.2 → p m = true
  | 0, s, h => by simp [runs] at h
  | n + 1, s, h => by
    have ih := runs_sound n
    intro m h1 h2
    rcases runs_cases (p := p) (a := a) n with ⟨_, e⟩ | ⟨hp, S, x, e1, e2⟩ | ⟨hp, _, e⟩
    · rw [e] at h; exact ih s h m h1 h2
    · rw [e2] at h; rw [e1] at ih
      rcases List.mem_append.1 h with h | h
      · exact ih s (List.mem_append.2 (.inl h)) m h1 h2
      · simp only [List.mem_cons, List.not_mem_nil, or_false] at h
        subst h
        simp only at h1 h2
        by_cases hm : m = a + n
        · rw [hm]; exact hp
        · exact ih (x, a + n - 1) (by simp) m h1 (by simp only; omega)
    · rw [e] at h
      rcases List.mem_append.1 h with h | h
      · exact ih s h m h1 h2
      · simp only [List.mem_cons, List.not_mem_nil, or_false] at h
        subst h
        simp only at h1 h2
        obtain rfl : m = a + n := by omega
        exact hp
theorem runs_cover : ∀ (n : Nat) (m : Int), a ≤ m → m < a + n → p m = true → ∃ s ∈ runs p a n, s.1 ≤ m ∧ m ≤ s.2
  | 0, m, h1, h2, _ => by omega
  | n + 1, m, h1, h2, hm => by
    have ih := runs_cover n m h1
    rcases runs_cases (p := p) (a := a) n with ⟨hp, e⟩ | ⟨hp, S, x, e1, e2⟩ | ⟨hp, _, e⟩
    · rw [e]
      refine ih ?_ hm
      by_cases hx : m = a + n
      · rw [hx, hp] at hm; cases hm
      · omega
    · rw [e2]; rw [e1] at ih
      by_cases hx : m = a + n
      · refine ⟨(x, a + n), by simp, ?_⟩
        have := runs_bd (p := p) (a := a) n (x, a + n - 1) (by rw [e1]; simp)
        simp only at this ⊢
        omega
      · obtain ⟨s, hs, h3, h4⟩ := ih (by omega) hm
        rcases List.mem_append.1 hs with hs | hs
        · exact ⟨s, List.mem_append.2 (.inl hs), h3, h4⟩
        · simp only [List.mem_cons, List.not_mem_nil, or_false] at hs
          subst hs
          exact ⟨(x, a + n), by simp, h3, by simp only at h4 ⊢; omega⟩
    · rw [e]
      by_cases hx : m = a + n
      · exact ⟨(a + n, a + n), by simp, by simp only; omega, by simp only; omega⟩
      · obtain ⟨s, hs, h3⟩ := ih (by omega) hm
        exact ⟨s, List.mem_append.2 (.inl hs), h3⟩
theorem runs_sorted : ∀ n : Nat, (runs p a n).Pairwise (fun x y => x.2 < y.1)
  | 0 => by simp [runs]
  | n + 1 => by
    have ih := runs_sorted n
    rcases runs_cases (p := p) (a := a) n with ⟨hp, e⟩ | ⟨hp, S, x, e1, e2⟩ | ⟨hp, _, e⟩
    · rw [e]; exact ih
    · rw [e2]; rw [e1] at ih
      rw [List.pairwise_append] at ih ⊢
      refine ⟨ih.1, by simp, fun y hy z hz => ?_⟩
      simp only [List.mem_cons, List.not_mem_nil, or_false] at hz
      subst hz
      exact ih.2.2 y hy (x, a + n - 1) (by simp)
    · rw [e, List.pairwise_append]
      refine ⟨ih, by simp, fun y hy z hz => ?_⟩
      simp only [List.mem_cons, List.not_mem_nil, or_false] at hz
      subst hz
      have := runs_bd (p := p) (a := a) n y hy
      simp only
      omega
/-- the next minute with p: out of the stretches -/
theorem runs_next {n k : Nat} {s : Int × Int} {mn : Int} (hk : (runs p a n)[k]? = some s) (hs : mn ≤ s.2) (hj : ∀ (j : Nat) (u : Int × Int), j < k → (runs p a n)[j]? = some u → u.2 < mn) :
    p (max mn s.1) = true ∧ mn ≤ max mn s.1 ∧ max mn s.1 < a + n ∧ ∀ m, a ≤ m → mn ≤ m → m < max mn s.1 → p m = false := by
  have hmem := List.mem_of_getElem? hk
  have hb := runs_bd n s hmem
  refine ⟨runs_sound n s hmem _ (by omega) (by omega), by omega, by omega, fun m h1 h2 h3 => ?_⟩
  cases hp : p m
  · rfl
  exfalso
  obtain ⟨u, hu, h4, h5⟩ := runs_cover n m h1 (by omega) hp
  obtain ⟨j, hju⟩ := List.getElem?_of_mem hu
  rcases Nat.lt_trichotomy j k with h | h | h
  · have := hj j u h hju; omega
  · subst h
    rw [hju] at hk
    injection hk with hk
    subst hk
    omega
  · have hkl := (List.getElem?_eq_some_iff.1 hk)
    have hjl := (List.getElem?_eq_some_iff.1 hju)
    obtain ⟨hk1, rfl⟩ := hkl
    obtain ⟨hj1, rfl⟩ := hjl
    have := List.pairwise_iff_getElem.1 (runs_sorted (p := p) (a := a) n) k j hk1 hj1 h
    omega
theorem runs_none {n : Nat} {mn : Int} (hj : ∀ (j : Nat) (u : Int × Int), (runs p a n)[j]? = some u → u.2 < mn) (m : Int) (h1 : a ≤ m) (h2 : mn ≤ m) (h3 : m < a + n) : p m = false := by
  cases hp : p m
  · rfl
  exfalso
  obtain ⟨u, hu, h4, h5⟩ := runs_cover n m h1 h3 hp
  obtain ⟨j, hju⟩ := List.getElem?_of_mem hu
  have := hj j u hju
  omega
end

end Go.Proofs.Ytdmiajgcofapkaa
