/- Slices of slices: how they read, and those that the call made itself. No program in sight, but for the laws' helpers at the foot. -/
import Derived.Test.YtcdpgdpabmlpdaaMark
import Derived.Test.YtcdpgdpabmlpdaaApp
namespace Go.Proofs.Ytcdpgdpabmlpdaa
open Go.RowKit

/-- the slice of slices '.slice A LL.length c' reads as LL; its blocks lie below B -/
def RdS {α : Type} (enc : α → List Value) (sz : Nat) (w : World) (B : Nat) (A : Option Addr) (LL : List (List α)) : Prop :=
  0 < LL.length → ∃ b off, A = some ⟨b, off, none⟩ ∧ b < B ∧ ∀ k (hk : k < LL.length), ∃ A' c', w.cell? ⟨b, off + k, none⟩ = some (.slice A' LL[k].length c') ∧ Rd enc sz w B A' LL[k] ∧ LL[k].length ≤ c' ∧ c' ≤ maxLen
section
variable {α : Type} {enc : α → List Value} {sz : Nat} {w w' : World} {B B' : Nat} {A : Option Addr} {LL : List (List α)}
theorem RdS.keep (h : RdS enc sz w B A LL) (hk : ∀ p : Addr, p.block < B → w'.cell? p = w.cell? p) : RdS enc sz w' B A LL := fun h0 => by
  obtain ⟨b, off, e, hb, hc⟩ := h h0
  refine ⟨b, off, e, hb, fun k hkk => ?_⟩
  obtain ⟨A', c', h1, h2, h3⟩ := hc k hkk
  exact ⟨A', c', (hk ⟨b, off + k, none⟩ hb).trans h1, h2.keep hk, h3⟩
theorem RdS.more (h : RdS enc sz w B A LL) (hB : B ≤ B') : RdS enc sz w B' A LL := fun h0 => by
  obtain ⟨b, off, e, hb, hc⟩ := h h0
  refine ⟨b, off, e, by omega, fun k hkk => ?_⟩
  obtain ⟨A', c', h1, h2, h3⟩ := hc k hkk
  exact ⟨A', c', h1, h2.more hB, h3⟩
theorem RdS.below (h : RdS enc sz w B A LL) (hb : Below B w w') : RdS enc sz w' B A LL := h.keep fun _ hp => hb.cell hp
theorem RdS.call (h : RdS enc sz w w.heap.size A LL) (hb : Below w.heap.size w w') : RdS enc sz w' w'.heap.size A LL := (h.below hb).more hb.size
theorem RdS.at_ (h : RdS enc sz w B A LL) {k : Nat} (hk : k < LL.length) : ∃ b off, A = some ⟨b, off, none⟩ ∧ b < B ∧ ∃ A' c', w.cell? ⟨b, off + k, none⟩ = some (.slice A' LL[k].length c') ∧ Rd enc sz w B A' LL[k] ∧ LL[k].length ≤ maxLen := by
  obtain ⟨b, off, e, hb, hc⟩ := h (by omega)
  obtain ⟨A', c', h1, h2, h3, h4⟩ := hc k hk
  exact ⟨b, off, e, hb, A', c', h1, h2, Nat.le_trans h3 h4⟩
theorem RdS.nil_ : RdS enc sz w B A ([] : List (List α)) := fun h => absurd h (by simp)
end
/-- a slice value is its own cell -/
abbrev ev : Value → List Value := fun u => [u]
theorem len_ev (u : Value) : (ev u).length = 1 := rfl
abbrev Apart (u v : Value) : Prop := u.ownBlock = none ∨ u.ownBlock ≠ v.ownBlock
/-- the rows vs are of the call's own, from block a on, each apart from those ahead of it; the j-th one reads as f j -/
def InV {α : Type} (enc : α → List Value) (sz : Nat) (w : World) (a : Nat) (E : TypeId) (vs : List Value) (f : Nat → List α) : Prop :=
  ∀ (k : Nat) (u : Value), vs[k]? = some u → Own enc sz w a E u (f k) ∧ ∀ (j : Nat) (u' : Value), j < k → vs[j]? = some u' → Apart u' u
section
variable {α : Type} {enc : α → List Value} {sz : Nat} {w w' : World} {a a' b : Nat} {E TE : TypeId} {v : Value} {vs : List Value} {f g : Nat → List α}
theorem InV.nil_ : InV enc sz w a E [] f := fun k u h => by simp at h
theorem InV.call (h : InV enc sz w a E vs f) (hb : Below w.heap.size w w') : InV enc sz w' a E vs f := fun k u hu => ⟨(h k u hu).1.call hb, (h k u hu).2⟩
theorem InV.base_ (h : InV enc sz w a E vs f) (hb : a' ≤ a) : InV enc sz w a' E vs f := fun k u hu => ⟨(h k u hu).1.base_ hb, (h k u hu).2⟩
theorem InV.congr (h : InV enc sz w a E vs f) (he : ∀ k, k < vs.length → f k = g k) : InV enc sz w a E vs g := fun k u hu => by
  rw [← he k (List.getElem?_eq_some_iff.1 hu).1]; exact h k u hu
theorem InV.snoc {u : Value} (h : InV enc sz w a E vs f) (hb : Below w.heap.size w w') (hu : Own enc sz w' w.heap.size E u (f vs.length)) (ha : a ≤ w.heap.size) : InV enc sz w' a E (vs ++ [u]) f := fun k x hx => by
  rcases Nat.lt_trichotomy k vs.length with hk | hk | hk
  · rw [List.getElem?_append_left hk] at hx
    refine ⟨(h k x hx).1.call hb, fun j u' hj hu' => ?_⟩
    rw [List.getElem?_append_left (by omega)] at hu'
    exact (h k x hx).2 j u' hj hu'
  · subst hk
    rw [List.getElem?_append_right (Nat.le_refl _), Nat.sub_self] at hx
    simp only [List.getElem?_cons_zero, Option.some.injEq] at hx
    subst hx
    refine ⟨hu.base_ ha, fun j u' hj hu' => ?_⟩
    rw [List.getElem?_append_left hj] at hu'
    exact own_apart (h j u' hu').1 hu (Nat.le_refl _)
  · rw [List.getElem?_eq_none (by simp; omega)] at hx; cases hx
/-- nothing has turned but blocks from a up to b -/
structure KeptR (a b : Nat) (w w' : World) : Prop where
  os : w'.os = w.os
  tape : w'.tape = w.tape
  output : w'.output = w.output
  size : w.heap.size ≤ w'.heap.size
  block : ∀ i, i < w.heap.size → (i < a ∨ b ≤ i) → w'.heap[i]? = w.heap[i]?
theorem KeptR.refl (a b : Nat) (w : World) : KeptR a b w w := ⟨rfl, rfl, rfl, Nat.le_refl _, fun _ _ _ => rfl⟩
theorem KeptR.trans {w'' : World} (h : KeptR a b w w') (k : KeptR a b w' w'') : KeptR a b w w'' :=
  ⟨k.os.trans h.os, k.tape.trans h.tape, k.output.trans h.output, Nat.le_trans h.size k.size, fun i hi hn => (k.block i (Nat.lt_of_lt_of_le hi h.size) hn).trans (h.block i hi hn)⟩
theorem KeptR.grown {row : Option Nat} (h : w.grownBy w' row) (hr : ∀ g, row = some g → a ≤ g ∧ g < b) : KeptR a b w w' :=
  ⟨h.os, h.tape, h.output, h.size, fun i hi hn => h.block i hi (fun e => by have := hr i e.symm; omega)⟩
theorem Own.keptR {base : Nat} {L : List α} (h : Own enc sz w base E v L) (hk : KeptR a b w w') (hn : ∀ g, v.ownBlock = some g → g < a ∨ b ≤ g) : Own enc sz w' base E v L := by
  refine ⟨h.1, ?_⟩
  rcases h.2 with ⟨rfl, hn0⟩ | ⟨g, cap, cur, rfl, hb, hg, r⟩
  · exact .inl ⟨rfl, hn0⟩
  · exact .inr ⟨g, cap, cur, rfl, hb, (hk.block g (Array.getElem?_eq_some_iff.1 hg).1 (hn g rfl)).trans hg, r⟩
theorem Below.keptR {B : Nat} {w0 : World} (h : Below B w0 w) (hk : KeptR a b w w') (hB : B ≤ a) (hs : B ≤ w.heap.size) : Below B w0 w' :=
  ⟨hk.os.trans h.os, hk.tape.trans h.tape, hk.output.trans h.output, Nat.le_trans h.size hk.size, fun i hi => (hk.block i (by omega) (.inl (by omega))).trans (h.block i hi)⟩
/-- a slice of slices of the call's own: its blocks lie from a up to b; the j-th row reads as f j -/
structure OwnV (enc : α → List Value) (sz : Nat) (w : World) (a b : Nat) (E TE : TypeId) (v : Value) (vs : List Value) (f : Nat → List α) : Prop where
  outer : Own ev 1 w a TE v vs
  inner : InV enc sz w a E vs f
  far : ∀ (k : Nat) (u : Value), vs[k]? = some u → Apart u v
  top : ∀ g, v.ownBlock = some g → g < b
  tops : ∀ (k : Nat) (u : Value), vs[k]? = some u → ∀ g, u.ownBlock = some g → g < b
theorem OwnV.call (h : OwnV enc sz w a b E TE v vs f) (hb : Below w.heap.size w w') : OwnV enc sz w' a b E TE v vs f := ⟨h.outer.call hb, h.inner.call hb, h.far, h.top, h.tops⟩
theorem OwnV.base_ (h : OwnV enc sz w a b E TE v vs f) (hb : a' ≤ a) : OwnV enc sz w a' b E TE v vs f := ⟨h.outer.base_ hb, h.inner.base_ hb, h.far, h.top, h.tops⟩
theorem OwnV.form (h : OwnV enc sz w a b E TE v vs f) : ∃ A c, v = .slice A vs.length c := own_form h.outer
/-- the list of lists that it reads as -/
def listOf (n : Nat) (f : Nat → List α) : List (List α) := (List.range n).map f
theorem listOf_len (n : Nat) (f : Nat → List α) : (listOf n f).length = n := by simp [listOf]
theorem listOf_at {n : Nat} (f : Nat → List α) {k : Nat} (h : k < (listOf n f).length) : (listOf n f)[k] = f k := by simp [listOf]
theorem listOf_self (LL : List (List α)) : listOf LL.length (fun j => LL.getD j []) = LL := by
  apply List.ext_getElem?
  intro i
  by_cases hi : i < LL.length
  · simp [listOf, hi]
  · rw [List.getElem?_eq_none (by simp [listOf]; omega), List.getElem?_eq_none (by omega)]
theorem OwnV.rd {n c : Nat} {A : Option Addr} (hs : ∀ x, (enc x).length = sz) (h : OwnV enc sz w a b E TE (.slice A n c) vs f) : RdS enc sz w w.heap.size A (listOf vs.length f) := fun h0 => by
  rw [listOf_len] at h0
  obtain ⟨A0, c0, e0, hr, _⟩ := Own.rd len_ev h.outer
  obtain ⟨g, off, e, hg, hc⟩ := hr h0
  injection e0 with e1 e2 e3
  subst e1
  refine ⟨g, off, e, hg, fun k hk => ?_⟩
  have hk' : k < vs.length := by rwa [listOf_len] at hk
  have h1 := hc k hk' 0 vs[k] rfl
  obtain ⟨ho, _⟩ := h.inner k vs[k] (get_at hk')
  obtain ⟨A', c', ev', hr', _, h3, h4⟩ := Own.rd hs ho
  rw [ev', Nat.mul_one, Nat.add_zero] at h1
  refine ⟨A', c', ?_, ?_, ?_, h4⟩
  · rw [h1, listOf_at f hk]
  · rw [listOf_at f hk]; exact hr'
  · rw [listOf_at f hk]; exact h3
/-- how many elements the first k rows have -/
def totTo (LL : List (List α)) (k : Nat) : Nat := ((LL.take k).map List.length).sum
theorem totTo_succ {LL : List (List α)} {k : Nat} {l : List α} (h : LL[k]? = some l) : totTo LL (k + 1) = totTo LL k + l.length := by
  obtain ⟨hk, rfl⟩ := List.getElem?_eq_some_iff.1 h
  unfold totTo
  rw [List.take_succ_eq_append_getElem hk, List.map_append, List.sum_append]
  simp
theorem totTo_mono (LL : List (List α)) {i j : Nat} (h : i ≤ j) : totTo LL i ≤ totTo LL j := by
  induction j with
  | zero => have : i = 0 := by omega
            subst this; exact Nat.le_refl _
  | succ j ih =>
    by_cases e : i = j + 1
    · subst e; exact Nat.le_refl _
    · have := ih (by omega)
      refine Nat.le_trans this ?_
      by_cases hj : j < LL.length
      · rw [totTo_succ (get_at hj)]; omega
      · unfold totTo; rw [List.take_of_length_le (by omega), List.take_of_length_le (by omega)]; exact Nat.le_refl _
theorem len_le_tot {LL : List (List α)} {k : Nat} {l : List α} (h : LL[k]? = some l) : l.length ≤ totTo LL LL.length := by
  have := totTo_succ h
  have := totTo_mono LL (show k + 1 ≤ LL.length from (List.getElem?_eq_some_iff.1 h).1)
  omega
end
def szSS {α : Type} (left : Int) (LL : List (List α)) : Int := if left < (LL.length : Int) + (totTo LL LL.length : Nat) then -1 else left - LL.length - (totTo LL LL.length : Nat)

end Go.Proofs.Ytcdpgdpabmlpdaa
