/- How the reference picks the best hours, plainly. -/
import Derived.Test.YtcdpgdpabmlpdaaBest
namespace Go.Proofs.Ytcdpgdpabmlpdaa
open Go.RowKit

def usedF (F : List Int) (k : Nat) (j : Nat) : Bool := decide ((j : Int) ∈ (bhM F).take k)
def usedL (F : List Int) (k : Nat) : List Bool := (List.range F.length).map (usedF F k)
def cand (F : List Int) (k : Nat) (j : Nat) : Bool := !usedF F k j && posP F j
def beats (F : List Int) (b : Int) (i : Nat) : Bool := decide (b < 0) || decide (F.getD b.toNat 0 < F.getD i 0)
def pk (F : List Int) (k : Nat) : Nat → Int
  | 0 => -1
  | i + 1 => if (cand F k i && beats F (pk F k i) i) = true then (i : Int) else pk F k i
theorem pk_yes {F : List Int} {k i : Nat} (h1 : cand F k i = true) (h2 : beats F (pk F k i) i = true) : pk F k (i + 1) = (i : Int) := by rw [pk, h1, h2]; rfl
theorem pk_no {F : List Int} {k i : Nat} (h : (cand F k i && beats F (pk F k i) i) = false) : pk F k (i + 1) = pk F k i := by rw [pk, h]; rfl
theorem pk_inv (F : List Int) (k : Nat) : ∀ i, (pk F k i = -1 ∧ ∀ j, j < i → cand F k j = false) ∨ (∃ b : Nat, b < i ∧ pk F k i = (b : Int) ∧ cand F k b = true ∧ ∀ j, j < i → cand F k j = true → le2 F (b : Int) (j : Int) = true)
  | 0 => .inl ⟨rfl, fun j hj => by omega⟩
  | i + 1 => by
    have le := fun (a b : Nat) => @le2_iff F (a : Int) (b : Int)
    simp only [Int.toNat_natCast] at le
    cases hc : cand F k i with
    | false =>
      rw [pk_no (by rw [hc]; rfl)]
      rcases pk_inv F k i with ⟨h1, h2⟩ | ⟨b, h1, h2, h3, h4⟩
      · refine .inl ⟨h1, fun j hj => ?_⟩
        rcases Nat.lt_succ_iff_lt_or_eq.1 hj with hj | rfl
        · exact h2 j hj
        · exact hc
      · refine .inr ⟨b, by omega, h2, h3, fun j hj hcj => ?_⟩
        rcases Nat.lt_succ_iff_lt_or_eq.1 hj with hj | rfl
        · exact h4 j hj hcj
        · rw [hc] at hcj; cases hcj
    | true =>
      rcases pk_inv F k i with ⟨h1, h2⟩ | ⟨b, h1, h2, h3, h4⟩
      · rw [pk_yes hc (by rw [h1]; rfl)]
        refine .inr ⟨i, by omega, rfl, hc, fun j hj hcj => ?_⟩
        rcases Nat.lt_succ_iff_lt_or_eq.1 hj with hj | rfl
        · rw [h2 j hj] at hcj; cases hcj
        · rw [le]; exact .inr ⟨rfl, Int.le_refl _⟩
      · cases hb : beats F (pk F k i) i with
        | true =>
          rw [pk_yes hc hb]
          rw [h2] at hb
          simp only [beats, Int.toNat_natCast, Bool.or_eq_true, decide_eq_true_eq] at hb
          refine .inr ⟨i, by omega, rfl, hc, fun j hj hcj => ?_⟩
          rcases Nat.lt_succ_iff_lt_or_eq.1 hj with hj | rfl
          · have := (le b j).1 (h4 j hj hcj)
            rw [le]; omega
          · rw [le]; exact .inr ⟨rfl, Int.le_refl _⟩
        | false =>
          rw [pk_no (by rw [hc, hb]; rfl)]
          rw [h2] at hb
          simp only [beats, Int.toNat_natCast, Bool.or_eq_false_iff, decide_eq_false_iff_not] at hb
          refine .inr ⟨b, by omega, h2, h3, fun j hj hcj => ?_⟩
          rcases Nat.lt_succ_iff_lt_or_eq.1 hj with hj | rfl
          · exact h4 j hj hcj
          · rw [le]; omega
theorem pk_bd (F : List Int) (k i : Nat) : -1 ≤ pk F k i ∧ pk F k i < (i : Int) ∨ pk F k i = -1 := by
  rcases pk_inv F k i with ⟨h, _⟩ | ⟨b, h1, h2, _⟩
  · exact .inr h
  · left; omega
theorem bhM_nodup (F : List Int) : (bhM F).Nodup := by
  rw [(bhM_perm F).nodup_iff]
  exact (bhH_asc F).imp (fun h => by omega)
theorem cand_iff {F : List Int} {k j : Nat} (hj : j < F.length) : cand F k j = true ↔ (j : Int) ∈ (bhM F).drop k := by
  have hm : (j : Int) ∈ bhM F ↔ posP F j = true := by
    rw [(bhM_perm F).mem_iff, bhH_mem]
    constructor
    · rintro ⟨q, _, h2, h3⟩
      rw [show j = q by omega]; exact h2
    · intro h; exact ⟨j, hj, h, rfl⟩
  have hs : bhM F = (bhM F).take k ++ (bhM F).drop k := (List.take_append_drop k _).symm
  have hn := bhM_nodup F
  rw [hs, List.nodup_append] at hn
  simp only [cand, usedF, Bool.and_eq_true, Bool.not_eq_true', decide_eq_false_iff_not]
  constructor
  · rintro ⟨h1, h2⟩
    have := hm.2 h2
    rw [hs, List.mem_append] at this
    rcases this with h | h
    · exact absurd h h1
    · exact h
  · intro h
    exact ⟨fun h2 => hn.2.2 _ h2 _ h rfl, hm.1 (by rw [hs, List.mem_append]; exact .inr h)⟩
theorem pk_none {F : List Int} {k : Nat} (h : (bhM F).length ≤ k) : pk F k F.length = -1 := by
  rcases pk_inv F k F.length with ⟨h1, _⟩ | ⟨b, h1, h2, h3, h4⟩
  · exact h1
  · rw [cand_iff h1, List.drop_eq_nil_of_le h] at h3; cases h3
theorem pk_some {F : List Int} {k : Nat} (h : k < (bhM F).length) : pk F k F.length = (bhM F)[k] := by
  have hm : (bhM F)[k] ∈ bhM F := List.getElem_mem h
  obtain ⟨q, hq, hp, e⟩ := bhH_mem.1 ((bhM_perm F).mem_iff.1 hm)
  have hd : (bhM F).drop k = (bhM F)[k] :: (bhM F).drop (k + 1) := List.drop_eq_getElem_cons h
  have hcq : cand F k q = true := by rw [cand_iff hq, hd, ← e]; exact List.mem_cons_self
  rcases pk_inv F k F.length with ⟨_, h2⟩ | ⟨b, h1, h2, h3, h4⟩
  · rw [h2 q hq] at hcq; cases hcq
  · rw [h2]
    refine le2_anti (F := F) ?_ ?_
    · rw [e]; exact h4 q hq hcq
    · rw [cand_iff h1, hd, List.mem_cons] at h3
      rcases h3 with h3 | h3
      · rw [← h3, le2_iff]; exact .inr ⟨rfl, Int.le_refl _⟩
      · have hpw := bhM_pair F
        rw [← List.take_append_drop k (bhM F), List.pairwise_append, hd, List.pairwise_cons] at hpw
        exact hpw.2.1.1 _ h3
def putL (n : Int) : List Int → List Int
  | [] => [n]
  | x :: r => if n ≤ x then (if n < x then n :: x :: r else x :: r) else x :: putL n r
theorem putL_lt {n x : Int} (r : List Int) (h : n < x) : putL n (x :: r) = n :: x :: r := by rw [putL, if_pos (by omega), if_pos h]
theorem putL_eq {n x : Int} (r : List Int) (h : n = x) : putL n (x :: r) = x :: r := by rw [putL, if_pos (by omega), if_neg (by omega)]
theorem putL_gt {n x : Int} (r : List Int) (h : x < n) : putL n (x :: r) = x :: putL n r := by rw [putL, if_neg (by omega)]
theorem putL_perm {n : Int} : ∀ {L : List Int}, n ∉ L → (putL n L).Perm (n :: L)
  | [], _ => List.Perm.refl _
  | x :: r, h => by
    simp only [List.mem_cons, not_or] at h
    rcases Int.lt_trichotomy n x with hx | hx | hx
    · rw [putL_lt r hx]
    · exact absurd hx h.1
    · rw [putL_gt r hx]
      exact ((putL_perm h.2).cons x).trans (List.Perm.swap n x r)
theorem putL_mem {n y : Int} : ∀ {L : List Int}, y ∈ putL n L → y = n ∨ y ∈ L
  | [], h => by simp [putL] at h; exact .inl h
  | x :: r, h => by
    rcases Int.lt_trichotomy n x with hx | hx | hx
    · rw [putL_lt r hx, List.mem_cons] at h; exact h
    · rw [putL_eq r hx] at h; exact .inr h
    · rw [putL_gt r hx, List.mem_cons] at h
      rcases h with h | h
      · exact .inr (by rw [h]; exact List.mem_cons_self)
      · rcases putL_mem h with h | h
        · exact .inl h
        · exact .inr (List.mem_cons_of_mem _ h)
theorem putL_pair {n : Int} : ∀ {L : List Int}, L.Pairwise (fun a b => leI a b = true) → (putL n L).Pairwise (fun a b => leI a b = true)
  | [], _ => by simp [putL]
  | x :: r, h => by
    have h0 := h
    rw [List.pairwise_cons] at h
    rcases Int.lt_trichotomy n x with hx | hx | hx
    · rw [putL_lt r hx, List.pairwise_cons]
      refine ⟨fun y hy => ?_, h0⟩
      rw [List.mem_cons] at hy
      rcases hy with rfl | hy
      · simp only [leI, decide_eq_true_eq]; omega
      · have := h.1 y hy
        simp only [leI, decide_eq_true_eq] at *; omega
    · rw [putL_eq r hx]; exact h0
    · rw [putL_gt r hx, List.pairwise_cons]
      refine ⟨fun y hy => ?_, putL_pair h.2⟩
      rcases putL_mem hy with rfl | hy
      · simp only [leI, decide_eq_true_eq]; omega
      · exact h.1 y hy
theorem putL_len (n : Int) : ∀ L : List Int, (putL n L).length ≤ L.length + 1
  | [] => by simp [putL]
  | x :: r => by
    have := putL_len n r
    rcases Int.lt_trichotomy n x with hx | hx | hx
    · rw [putL_lt r hx]; simp
    · rw [putL_eq r hx]; simp
    · rw [putL_gt r hx]; simp; omega
theorem bhR_put {F : List Int} {k : Nat} (h : k < (bhM F).length) : bhR F (k + 1) = putL (bhM F)[k] (bhR F k) := by
  have hn := bhM_nodup F
  have hd : (bhM F).take (k + 1) = (bhM F).take k ++ [(bhM F)[k]] := List.take_succ_eq_append_getElem h
  have hni : (bhM F)[k] ∉ bhR F k := by
    rw [(bhR_perm F k).mem_iff]
    intro hm
    rw [← List.take_append_drop k (bhM F), List.nodup_append] at hn
    exact hn.2.2 _ hm _ (by rw [List.drop_eq_getElem_cons h]; exact List.mem_cons_self) rfl
  symm
  refine bhR_one ?_ (putL_pair (bhR_pair F k))
  rw [hd]
  exact (putL_perm hni).trans (((bhR_perm F k).cons _).trans (List.perm_append_singleton _ _).symm)
theorem bhR_len (F : List Int) (k : Nat) : (bhR F k).length ≤ F.length := by
  have h1 := (bhR_perm F k).length_eq
  have h2 := bhM_len F
  have h3 := bhH_len F
  rw [List.length_take] at h1
  omega
theorem bhR_full {F : List Int} {k q : Nat} (h : (bhM F).length ≤ k) (hkq : k ≤ q) : bhR F q = bhR F k := by
  rw [bhR, bhR, List.take_of_length_le h, List.take_of_length_le (by omega)]
theorem usedL_len (F : List Int) (k : Nat) : (usedL F k).length = F.length := by simp [usedL]
theorem usedL_at {F : List Int} {k j : Nat} (h : j < F.length) : (usedL F k)[j]? = some (usedF F k j) := by simp [usedL, h]
theorem usedL_zero (F : List Int) : usedL F 0 = List.replicate F.length false := by
  rw [usedL]
  have h : (fun j => usedF F 0 j) = fun _ => false := by funext j; simp [usedF]
  rw [show usedF F 0 = fun j => usedF F 0 j from rfl, h]
  simp [List.map_const']
theorem usedL_set {F : List Int} {k b : Nat} (h : k < (bhM F).length) (hb : (bhM F)[k] = (b : Int)) : usedL F (k + 1) = (usedL F k).set b true := by
  apply List.ext_getElem?
  intro j
  rw [List.getElem?_set]
  by_cases hj : j < F.length
  · rw [usedL_at hj, usedL_at hj, usedL_len]
    have hd : (bhM F).take (k + 1) = (bhM F).take k ++ [(bhM F)[k]] := List.take_succ_eq_append_getElem h
    by_cases e : b = j
    · subst e
      rw [if_pos rfl, if_pos hj, usedF, hd, hb, decide_eq_true (by simp)]
    · rw [if_neg e, usedF, usedF, hd, hb]
      congr 1
      simp only [List.mem_append, List.mem_singleton]
      have : ¬ (j : Int) = (b : Int) := by omega
      simp [this]
  · rw [List.getElem?_eq_none (by rw [usedL_len]; omega), List.getElem?_eq_none (by rw [usedL_len]; omega)]
    split
    · rename_i e; rw [if_neg (by rw [usedL_len]; omega)]
    · rfl

end Go.Proofs.Ytcdpgdpabmlpdaa
