/- Small lemmas on memory and values that every text of this seat uses: slices that read as typed lists, blocks known whole, rows of the call's own. No program in sight. -/
import Derived.WalkKit
import Derived.WalkSpells
import Derived.WalkLawsBesides
import Derived.Handy
import Derived.Lib.Hide
import Derived.Deep.RegionHeld3
import Derived.BigQuiet
import Derived.Deep.AppendLies
import Derived.Maps.AppendAt
import Derived.Deep.Slices
import Derived.Deep.Fields
import Derived.ChangeSame
import Derived.Carry
namespace Go.Proofs.YtcdpgdpabmlpdaaDoor
open Go.RowKit

/-! ### Values and endings -/
theorem ret_int {k : IntKind} {a b : Int} (h : a = b) : Ending.returned (.int k a) = .returned (.int k b) := by rw [h]
theorem ret_bool {a b : Bool} (h : a = b) : Ending.returned (.bool a) = .returned (.bool b) := by rw [h]
theorem ret_ii {k : IntKind} {a b c d : Int} (h : a = b) (h2 : c = d) : Ending.returned (.tuple #[.int k a, .int k c]) = .returned (.tuple #[.int k b, .int k d]) := by rw [h, h2]
theorem drop_cons {α : Type} {L : List α} {k : Nat} (h : k < L.length) : L.drop k = L[k] :: L.drop (k + 1) := List.drop_eq_getElem_cons h
theorem get_at {α : Type} {L : List α} {k : Nat} (h : k < L.length) : L[k]? = some L[k] := List.getElem?_eq_getElem h

/-- a number lies in a range: a name of its own, so that the walk leaves it whole -/
def inB (n a b : Int) : Bool := decide (a ≤ n) && decide (n ≤ b)
theorem inB_t {n a b : Int} (h1 : a ≤ n) (h2 : n ≤ b) : inB n a b = true := by simp [inB, h1, h2]
theorem inB_f {n a b : Int} (h : n < a ∨ b < n) : inB n a b = false := by
  simp only [inB, Bool.and_eq_false_iff, decide_eq_false_iff_not]; omega
theorem inB_iff {n a b : Int} : inB n a b = true ↔ a ≤ n ∧ n ≤ b := by simp [inB]
theorem inB_not {n a b : Int} : inB n a b = false ↔ n < a ∨ b < n := by simp [inB]; omega

/-- what is left of a size, or -1 -/
def szR (left : Int) (n : Nat) : Int := if left < n then -1 else left - n

/-- a value with its code: 0 where it is good -/
def valOf (ok : Bool) (v : Int) : Int := if ok then v else 0
def codeOf (ok : Bool) : Int := if ok then 0 else 1

def code3 (a b : Bool) : Int := if a then (if b then 0 else 2) else 1

/-! ### Below -/
theorem bel_dN {B : Nat} {a w : World} (h : Below B a w) (n : Nat) : Below B a (w.drewN n) := ⟨h.os, h.tape, h.output, h.size, h.block⟩
theorem bel_own {B : Nat} {a w w' : World} (h : Below B a w) {row : Option Nat} (hg : w.grownBy w' row) (hB : B ≤ w.heap.size) (hr : row = none ∨ ∃ k, row = some k ∧ B ≤ k) : Below B a w' :=
  h.grown hg hB (fun k hk => by rcases hr with e | ⟨q, e, hq⟩ <;> rw [e] at hk <;> cases hk; exact hq)
theorem bel_call {B : Nat} {a w w' : World} (h : Below B a w) (hc : Below w.heap.size w w') (hB : B ≤ w.heap.size) : Below B a w' := h.trans (hc.mono hB)
theorem bel_grown {w w' : World} (h : Below w.heap.size w w') (row : Option Nat) : w.grownBy w' row := ⟨h.os, h.tape, h.output, h.size, fun i hi _ => h.block i hi⟩

theorem sz_al {B : Nat} {w : World} {o : Obj} (h : B ≤ w.heap.size) : B ≤ (w.alloc o).heap.size := by simp; omega
theorem sz_sc {B : Nat} {w : World} {p : Addr} {v : Value} (h : B ≤ w.heap.size) : B ≤ (w.setCell p v).heap.size := by simpa [World.setCell] using h
theorem sz_dr {B : Nat} {w : World} (h : B ≤ w.heap.size) : B ≤ w.drew.heap.size := h
theorem sz_dN {B n : Nat} {w : World} (h : B ≤ w.heap.size) : B ≤ (w.drewN n).heap.size := h
/-- a cell that is there reads on as it did behind a call -/
theorem kc {w w1 : World} (hb : Below w.heap.size w w1) {p : Addr} {v : Value} (h : w.cell? p = some v) : w1.cell? p = some v := (hb.cell (World.block_lt_of_cell? w p h)).trans h

theorem bcell {W w1 : World} (hb : Below W.heap.size W w1) : (∀ b o, b < W.heap.size → w1.cell? ⟨b, o, none⟩ = W.cell? ⟨b, o, none⟩) ∧ (∀ b o, b < W.heap.size → w1.frozen? ⟨b, o, none⟩ = W.frozen? ⟨b, o, none⟩) :=
  ⟨fun b o h => hb.cell (p := ⟨b, o, none⟩) h, fun b o h => hb.frozen (p := ⟨b, o, none⟩) h⟩

/-! ### Slices that read as typed lists -/
/-- the slice '.slice A xs.length c' reads as xs: each element is sz cells, as enc says; its block lies below B -/
def Rd {α : Type} (enc : α → List Value) (sz : Nat) (w : World) (B : Nat) (A : Option Addr) (xs : List α) : Prop :=
  0 < xs.length → ∃ b off, A = some ⟨b, off, none⟩ ∧ b < B ∧ ∀ k (hk : k < xs.length) j v, (enc xs[k])[j]? = some v → w.cell? ⟨b, off + k * sz + j, none⟩ = some v
section
variable {α : Type} {enc : α → List Value} {sz : Nat} {w w' : World} {B B' : Nat} {A : Option Addr} {xs : List α}
theorem Rd.keep (h : Rd enc sz w B A xs) (hk : ∀ p : Addr, p.block < B → w'.cell? p = w.cell? p) : Rd enc sz w' B A xs := fun h0 => by
  obtain ⟨b, off, e, hb, hc⟩ := h h0
  exact ⟨b, off, e, hb, fun k hkk j v hv => (hk ⟨b, off + k * sz + j, none⟩ hb).trans (hc k hkk j v hv)⟩
theorem Rd.more (h : Rd enc sz w B A xs) (hB : B ≤ B') : Rd enc sz w B' A xs := fun h0 => by
  obtain ⟨b, off, e, hb, hc⟩ := h h0
  exact ⟨b, off, e, by omega, hc⟩
theorem Rd.below (h : Rd enc sz w B A xs) (hb : Below B w w') : Rd enc sz w' B A xs := h.keep fun _ hp => hb.cell hp
theorem Rd.call (h : Rd enc sz w w.heap.size A xs) (hb : Below w.heap.size w w') : Rd enc sz w' w'.heap.size A xs := (h.below hb).more hb.size
theorem Rd.alloc (h : Rd enc sz w B A xs) (hB : B ≤ w.heap.size) (o : Obj) : Rd enc sz (w.alloc o) B A xs := h.keep fun p hp => World.cell?_alloc_lt w o p (by omega)
theorem Rd.setCell (h : Rd enc sz w B A xs) {p : Addr} (hB : B ≤ p.block) (u : Value) : Rd enc sz (w.setCell p u) B A xs :=
  h.keep fun q hq => World.cell?_setCell_other w p q u (fun e => by subst e; omega)
theorem Rd.grown (h : Rd enc sz w w.heap.size A xs) {g : Nat} (hg : w.grownBy w' (some g)) (hA : ∀ a, A = some a → a.block ≠ g) : Rd enc sz w' w'.heap.size A xs := fun h0 => by
  obtain ⟨b, off, e, hb, hc⟩ := h h0
  refine ⟨b, off, e, Nat.lt_of_lt_of_le hb hg.size, fun k hkk j v hv => ?_⟩
  have hne := hA _ e
  exact (World.cell?_of_block (hg.block b hb (fun e' => hne (by injection e')))).trans (hc k hkk j v hv)
theorem Rd.nil_ : Rd enc sz w B A ([] : List α) := fun h => absurd h (by simp)
end

abbrev e1 : Int → List Value := fun x => [.int .i64 x]
abbrev eb : Bool → List Value := fun x => [.bool x]
abbrev e2 : Int × Int → List Value := fun x => [.int .i64 x.1, .int .i64 x.2]
abbrev e3 : Int × Int × Int → List Value := fun x => [.int .i64 x.1, .int .i64 x.2.1, .int .i64 x.2.2]
abbrev eg : Bool × Int × Int → List Value := fun x => [.bool x.1, .int .i64 x.2.1, .int .i64 x.2.2]
abbrev e4 : Int × Int × Int × Int → List Value := fun x => [.int .i64 x.1, .int .i64 x.2.1, .int .i64 x.2.2.1, .int .i64 x.2.2.2]

section
variable {w : World} {B : Nat} {A : Option Addr} {k : Nat}
theorem Rd.at1 {xs : List Int} (h : Rd e1 1 w B A xs) (hk : k < xs.length) : ∃ b off, A = some ⟨b, off, none⟩ ∧ b < B ∧ ∀ q x, xs[q]? = some x → w.cell? ⟨b, off + q, none⟩ = some (.int .i64 x) := by
  obtain ⟨b, off, e, hb, hc⟩ := h (by omega)
  refine ⟨b, off, e, hb, fun q x hx => ?_⟩
  obtain ⟨hq, rfl⟩ := List.getElem?_eq_some_iff.1 hx
  have h0 := hc q hq 0 _ rfl
  rw [Nat.mul_one] at h0
  exact h0
theorem Rd.atb {xs : List Bool} (h : Rd eb 1 w B A xs) (hk : k < xs.length) : ∃ b off, A = some ⟨b, off, none⟩ ∧ b < B ∧ ∀ q x, xs[q]? = some x → w.cell? ⟨b, off + q, none⟩ = some (.bool x) := by
  obtain ⟨b, off, e, hb, hc⟩ := h (by omega)
  refine ⟨b, off, e, hb, fun q x hx => ?_⟩
  obtain ⟨hq, rfl⟩ := List.getElem?_eq_some_iff.1 hx
  have h0 := hc q hq 0 _ rfl
  rw [Nat.mul_one] at h0
  exact h0
theorem Rd.at2 {xs : List (Int × Int)} (h : Rd e2 2 w B A xs) (hk : k < xs.length) : ∃ b off, A = some ⟨b, off, none⟩ ∧ b < B ∧ ∀ q x, xs[q]? = some x → w.cell? ⟨b, off + q * 2, none⟩ = some (.int .i64 x.1) ∧ w.cell? ⟨b, off + q * 2 + 1, none⟩ = some (.int .i64 x.2) := by
  obtain ⟨b, off, e, hb, hc⟩ := h (by omega)
  refine ⟨b, off, e, hb, fun q x hx => ?_⟩
  obtain ⟨hq, rfl⟩ := List.getElem?_eq_some_iff.1 hx
  exact ⟨hc q hq 0 _ rfl, hc q hq 1 _ rfl⟩
theorem Rd.at3 {xs : List (Int × Int × Int)} (h : Rd e3 3 w B A xs) (hk : k < xs.length) : ∃ b off, A = some ⟨b, off, none⟩ ∧ b < B ∧ ∀ q x, xs[q]? = some x → w.cell? ⟨b, off + q * 3, none⟩ = some (.int .i64 x.1) ∧ w.cell? ⟨b, off + q * 3 + 1, none⟩ = some (.int .i64 x.2.1) ∧ w.cell? ⟨b, off + q * 3 + 2, none⟩ = some (.int .i64 x.2.2) := by
  obtain ⟨b, off, e, hb, hc⟩ := h (by omega)
  refine ⟨b, off, e, hb, fun q x hx => ?_⟩
  obtain ⟨hq, rfl⟩ := List.getElem?_eq_some_iff.1 hx
  exact ⟨hc q hq 0 _ rfl, hc q hq 1 _ rfl, hc q hq 2 _ rfl⟩
theorem Rd.atg {xs : List (Bool × Int × Int)} (h : Rd eg 3 w B A xs) (hk : k < xs.length) : ∃ b off, A = some ⟨b, off, none⟩ ∧ b < B ∧ ∀ q x, xs[q]? = some x → w.cell? ⟨b, off + q * 3, none⟩ = some (.bool x.1) ∧ w.cell? ⟨b, off + q * 3 + 1, none⟩ = some (.int .i64 x.2.1) ∧ w.cell? ⟨b, off + q * 3 + 2, none⟩ = some (.int .i64 x.2.2) := by
  obtain ⟨b, off, e, hb, hc⟩ := h (by omega)
  refine ⟨b, off, e, hb, fun q x hx => ?_⟩
  obtain ⟨hq, rfl⟩ := List.getElem?_eq_some_iff.1 hx
  exact ⟨hc q hq 0 _ rfl, hc q hq 1 _ rfl, hc q hq 2 _ rfl⟩
theorem Rd.at4 {xs : List (Int × Int × Int × Int)} (h : Rd e4 4 w B A xs) (hk : k < xs.length) : ∃ b off, A = some ⟨b, off, none⟩ ∧ b < B ∧ ∀ q x, xs[q]? = some x → w.cell? ⟨b, off + q * 4, none⟩ = some (.int .i64 x.1) ∧ w.cell? ⟨b, off + q * 4 + 1, none⟩ = some (.int .i64 x.2.1) ∧ w.cell? ⟨b, off + q * 4 + 2, none⟩ = some (.int .i64 x.2.2.1) ∧ w.cell? ⟨b, off + q * 4 + 3, none⟩ = some (.int .i64 x.2.2.2) := by
  obtain ⟨b, off, e, hb, hc⟩ := h (by omega)
  refine ⟨b, off, e, hb, fun q x hx => ?_⟩
  obtain ⟨hq, rfl⟩ := List.getElem?_eq_some_iff.1 hx
  exact ⟨hc q hq 0 _ rfl, hc q hq 1 _ rfl, hc q hq 2 _ rfl, hc q hq 3 _ rfl⟩
end

/-! ### Rows of the call's own -/
/-- the slice v owns a row whose cells are those of L -/
abbrev Own {α : Type} (enc : α → List Value) (sz : Nat) (w : World) (base : Nat) (E : TypeId) (v : Value) (L : List α) : Prop := w.ownsRow base E sz v L.length (L.flatMap enc)

theorem flatMap_at {α : Type} {enc : α → List Value} {sz : Nat} (hs : ∀ x, (enc x).length = sz) : ∀ (L : List α) (k : Nat) (hk : k < L.length) (j : Nat) (v : Value), (enc L[k])[j]? = some v → (L.flatMap enc)[k * sz + j]? = some v
  | [], k, hk, _, _, _ => absurd hk (by simp)
  | x :: r, 0, _, j, v, hv => by
    simp only [List.getElem_cons_zero] at hv
    have hj : j < (enc x).length := (List.getElem?_eq_some_iff.1 hv).1
    rw [List.flatMap_cons, Nat.zero_mul, Nat.zero_add, List.getElem?_append_left hj]; exact hv
  | x :: r, k + 1, hk, j, v, hv => by
    have ih := flatMap_at hs r k (by simpa using hk) j v (by simpa using hv)
    rw [List.flatMap_cons, List.getElem?_append_right (by rw [hs, Nat.add_mul]; omega), hs]
    rw [show (k + 1) * sz + j - sz = k * sz + j by rw [Nat.add_mul]; omega]
    exact ih
theorem flatMap_len {α : Type} {enc : α → List Value} {sz : Nat} (hs : ∀ x, (enc x).length = sz) (L : List α) : (L.flatMap enc).length = L.length * sz := by
  induction L with
  | nil => simp
  | cons x r ih => rw [List.flatMap_cons, List.length_append, hs, ih, List.length_cons, Nat.add_mul]; omega

section
variable {α : Type} {enc : α → List Value} {sz : Nat} {w w' : World} {base : Nat} {E : TypeId} {v : Value} {L : List α}
/-- an owned row reads as its list -/
theorem Own.rd (hs : ∀ x, (enc x).length = sz) (h : Own enc sz w base E v L) : ∃ A c, v = .slice A L.length c ∧ Rd enc sz w w.heap.size A L ∧ (A = none ∨ ∃ g, A = some ⟨g, 0, none⟩ ∧ base ≤ g ∧ g < w.heap.size) ∧ L.length ≤ c ∧ c ≤ maxLen := by
  rcases h.2 with ⟨rfl, hn⟩ | ⟨g, cap, cur, rfl, hb, hg, hnc, hcm, hcs, htake⟩
  · refine ⟨none, 0, by rw [hn], fun h0 => absurd h0 (by omega), .inl rfl, by omega, by unfold maxLen; omega⟩
  · refine ⟨some ⟨g, 0, none⟩, cap, rfl, fun h0 => ⟨g, 0, rfl, (Array.getElem?_eq_some_iff.1 hg).1, fun k hk j u hu => ?_⟩, .inr ⟨g, rfl, hb, (Array.getElem?_eq_some_iff.1 hg).1⟩, hnc, hcm⟩
    have h1 := flatMap_at hs L k hk j u hu
    have h2 := h.cells (g := g) rfl _ _ h1
    rw [show ((⟨g, 0, none⟩ : Addr).add (k * sz + j)) = ⟨g, 0 + k * sz + j, none⟩ by unfold Addr.add; split <;> simp_all <;> omega] at h2
    exact h2
theorem Own.call (h : Own enc sz w base E v L) (hb : Below w.heap.size w w') : Own enc sz w' base E v L := by
  refine h.kept (row := none) (bel_grown hb none) ?_
  cases hv : v.ownBlock <;> simp
theorem Own.grown_ (h : Own enc sz w base E v L) {row : Option Nat} (hg : w.grownBy w' row) (hne : v.ownBlock = none ∨ v.ownBlock ≠ row) : Own enc sz w' base E v L := h.kept hg hne
theorem Own.base_ {base' : Nat} (h : Own enc sz w base E v L) (hb : base' ≤ base) : Own enc sz w base' E v L :=
  ⟨h.1, h.2.imp id fun ⟨g, cap, cur, h1, h2, r⟩ => ⟨g, cap, cur, h1, Nat.le_trans hb h2, r⟩⟩
theorem Own.nil_ : Own enc sz w base E (.slice none 0 0) ([] : List α) := World.ownsRow_nil w base E sz
/-- two rows, one made behind the other, lie apart -/
theorem own_apart {v' : Value} {β : Type} {enc' : β → List Value} {sz' base' : Nat} {E' : TypeId} {L' : List β} {w0 : World} (h : Own enc sz w0 base E v L) (h' : Own enc' sz' w' base' E' v' L') (hb : w0.heap.size ≤ base') : v.ownBlock = none ∨ v.ownBlock ≠ v'.ownBlock := by
  rcases h.2 with ⟨rfl, _⟩ | ⟨g, cap, cur, rfl, hb1, hg, _⟩
  · exact .inl rfl
  · right
    rcases h'.2 with ⟨rfl, _⟩ | ⟨g', cap', cur', rfl, hb', hg', _⟩
    · simp [Value.ownBlock]
    · have := (Array.getElem?_eq_some_iff.1 hg).1
      simp only [Value.ownBlock, ne_eq, Option.some.injEq]; omega
end

/-! ### A block known whole, as a list of cells -/
def Blk (w : World) (g : Nat) (t : TypeId) (cs : List Value) : Prop := w.heap[g]? = some (.cells cs.toArray t (0, 0))
section
variable {w w' : World} {g : Nat} {t : TypeId} {cs : List Value}
theorem Blk.lt (h : Blk w g t cs) : g < w.heap.size := (Array.getElem?_eq_some_iff.1 h).1
theorem Blk.cell (h : Blk w g t cs) (i : Nat) : w.cell? ⟨g, i, none⟩ = cs[i]? := by
  rw [cell_of_row w g i cs.toArray t (0, 0) h]; simp
theorem Blk.frozen (h : Blk w g t cs) (i : Nat) : w.frozen? ⟨g, i, none⟩ = false := frozen_of_row w g i cs.toArray t h
theorem Blk.new (w : World) (t : TypeId) (cs : Array Value) : Blk (w.alloc (.cells cs t)) w.heap.size t cs.toList := heap_alloc_new w _
theorem Blk.alloc (h : Blk w g t cs) (o : Obj) : Blk (w.alloc o) g t cs := (Below.heap_alloc w o g h.lt).trans h
theorem Blk.drew (h : Blk w g t cs) : Blk w.drew g t cs := h
theorem Blk.dN (h : Blk w g t cs) (n : Nat) : Blk (w.drewN n) g t cs := h
theorem Blk.set_ (h : Blk w g t cs) (i : Nat) (u : Value) : Blk (w.setCell ⟨g, i, none⟩ u) g t (cs.set i u) := by
  unfold Blk at h ⊢
  simp [World.setCell, Array.getElem?_modify, h]
theorem Blk.far (h : Blk w g t cs) {p : Addr} (hp : g ≠ p.block) (u : Value) : Blk (w.setCell p u) g t cs := (Below.heap_setCell w p u g hp).trans h
theorem Blk.call (h : Blk w g t cs) (hb : Below w.heap.size w w') : Blk w' g t cs := (hb.block g h.lt).trans h
theorem Blk.below {B : Nat} (h : Blk w g t cs) (hb : Below B w w') (hg : g < B) : Blk w' g t cs := (hb.block g hg).trans h
theorem Blk.grown (h : Blk w g t cs) {row : Option Nat} (hb : w.grownBy w' row) (hg : some g ≠ row) : Blk w' g t cs := (hb.block g h.lt hg).trans h
theorem Blk.own {α : Type} {enc : α → List Value} {sz base : Nat} {L : List α} (hs : ∀ x, (enc x).length = sz) (h : Blk w g t (L.flatMap enc)) (hb : base ≤ g) (hm : L.length ≤ maxLen) : Own enc sz w base t (.slice (some ⟨g, 0, none⟩) L.length L.length) L :=
  ⟨flatMap_len hs L, .inr ⟨g, L.length, _, rfl, hb, h, Nat.le_refl _, hm, by simp only [List.size_toArray]; exact flatMap_len hs L, by exact List.take_of_length_le (by rw [flatMap_len hs L]; exact Nat.le_refl _)⟩⟩
/-- an owned row with elements: its block, whole: the cells of its list and a rest -/
theorem Own.blk {α : Type} {enc : α → List Value} {sz base n : Nat} {L : List α} {A : Option Addr} {c : Nat} (h : Own enc sz w base t (.slice A n c) L) (h0 : 0 < L.length) : ∃ g rest, A = some ⟨g, 0, none⟩ ∧ n = L.length ∧ base ≤ g ∧ L.length ≤ c ∧ c ≤ maxLen ∧ (L.flatMap enc ++ rest).length = c * sz ∧ Blk w g t (L.flatMap enc ++ rest) := by
  rcases h.2 with ⟨_, hn⟩ | ⟨g, cap, cur, hv, hb, hg, hnc, hcm, hcs, htake⟩
  · omega
  · simp only [Value.slice.injEq] at hv
    obtain ⟨rfl, rfl, rfl⟩ := hv
    have e : L.flatMap enc ++ cur.toList.drop (L.length * sz) = cur.toList := by rw [← htake]; exact List.take_append_drop _ _
    refine ⟨g, cur.toList.drop (L.length * sz), rfl, rfl, hb, hnc, hcm, ?_, ?_⟩
    · rw [e]; simpa using hcs
    · rw [e]; exact hg
theorem Blk.own_rest {α : Type} {enc : α → List Value} {sz base c : Nat} {L : List α} {rest : List Value} (hs : ∀ x, (enc x).length = sz) (h : Blk w g t (L.flatMap enc ++ rest)) (hb : base ≤ g) (hn : L.length ≤ c) (hm : c ≤ maxLen) (hl : (L.flatMap enc ++ rest).length = c * sz) : Own enc sz w base t (.slice (some ⟨g, 0, none⟩) L.length c) L :=
  ⟨flatMap_len hs L, .inr ⟨g, c, _, rfl, hb, h, hn, hm, by simpa using hl, by rw [← flatMap_len hs L]; exact List.take_left⟩⟩
end

/-! ### make: elements of several cells -/
theorem run_make_rowN {P : Program} (t e : TypeId) (i : TypeInfo) (z : Value) (ht : P.underlying t = some (.slice e)) (hi : P.info? e = some i) (hz : i.zero = some z)
    (kl kc : IntKind) (n c : Nat) (hnc : n ≤ c) (hbytes : i.bytes * c ≤ 281474976710656) (h63 : c ≤ 9223372036854775807) (w : World) :
    (Instr.makeSlice t (.int kl (n : Int)) (.int kc (c : Int))).run P w = .ok (.slice (some ⟨w.heap.size, 0, none⟩) n c) (w.alloc (.cells (madeCells z.cells (c * i.size)) e)) := by
  have hb : (i.bytes : Int) * (c : Int) ≤ 281474976710656 := by
    have h : ((i.bytes * c : Nat) : Int) ≤ 281474976710656 := by omega
    rwa [Int.natCast_mul] at h
  have hr := run_make (P := P) w t e i z ht hi hz kl kc n c (by omega) (by omega) hb (by omega)
  simp only [Int.toNat_natCast] at hr
  exact hr
/-- the cells of n zero elements -/
def zeros (z : List Value) (n : Nat) : List Value := (List.replicate n z).flatten
theorem zeros_succ (z : List Value) (n : Nat) : zeros z (n + 1) = z ++ zeros z n := by simp [zeros, List.replicate_succ]
theorem zeros_len (z : List Value) (n : Nat) : (zeros z n).length = n * z.length := by simp [zeros]
theorem zeros_at (z : List Value) (hz : 0 < z.length) : ∀ (n i : Nat), i < n * z.length → (zeros z n)[i]? = z[i % z.length]?
  | 0, i, h => absurd h (by omega)
  | n + 1, i, h => by
    rw [zeros_succ]
    by_cases hi : i < z.length
    · rw [List.getElem?_append_left hi, Nat.mod_eq_of_lt hi]
    · rw [List.getElem?_append_right (by omega), zeros_at z hz n (i - z.length) (by rw [Nat.add_mul] at h; omega), ← Nat.mod_eq_sub_mod (by omega)]
theorem madeCells_zeros (z : Array Value) (hz : 0 < z.size) (n : Nat) : (madeCells z (n * z.size)).toList = zeros z.toList n := by
  apply List.ext_getElem?
  intro i
  by_cases hi : i < n * z.size
  · rw [zeros_at z.toList (by simpa using hz) n i (by simpa using hi)]
    have hm : i % z.size < z.size := Nat.mod_lt _ hz
    simp [madeCells, hi, hm]
  · rw [List.getElem?_eq_none (by simp [madeCells]; omega), List.getElem?_eq_none (by rw [zeros_len]; simp; omega)]
theorem blk_made (w : World) (E : TypeId) (z : Array Value) (hz : 0 < z.size) (n : Nat) : Blk (w.alloc (.cells (madeCells z (n * z.size)) E)) w.heap.size E (zeros z.toList n) := by
  have h := Blk.new w E (madeCells z (n * z.size))
  rwa [madeCells_zeros z hz n] at h
/-- the k-th element of a row that is being filled -/
theorem set_1 {P R : List Value} {z0 : Value} {a : Value} {i : Nat} (h : P.length = i) : (P ++ (z0 :: R)).set i a = (P ++ [a]) ++ R := by subst h; simp
theorem set_2 {P R : List Value} {z0 z1 a b : Value} {i : Nat} (h : P.length = i) : ((P ++ (z0 :: z1 :: R)).set i a).set (i + 1) b = (P ++ [a, b]) ++ R := by subst h; simp
theorem set_3 {P R : List Value} {z0 z1 z2 a b c : Value} {i : Nat} (h : P.length = i) : (((P ++ (z0 :: z1 :: z2 :: R)).set i a).set (i + 1) b).set (i + 2) c = (P ++ [a, b, c]) ++ R := by subst h; simp
theorem set_4 {P R : List Value} {z0 z1 z2 z3 a b c d : Value} {i : Nat} (h : P.length = i) : ((((P ++ (z0 :: z1 :: z2 :: z3 :: R)).set i a).set (i + 1) b).set (i + 2) c).set (i + 3) d = (P ++ [a, b, c, d]) ++ R := by subst h; simp
theorem take_snoc {α β : Type} (L : List α) (f : α → List β) {k : Nat} {x : α} (h : L[k]? = some x) : (L.take (k + 1)).flatMap f = (L.take k).flatMap f ++ f x := by
  obtain ⟨hk, rfl⟩ := List.getElem?_eq_some_iff.1 h
  rw [List.take_succ_eq_append_getElem hk, List.flatMap_append]; simp
/-- the zero cells that stand next in a row that is being filled -/
theorem blk_next {w : World} {g : Nat} {E : TypeId} {P Z : List Value} {n i : Nat} (h : Blk w g E (P ++ zeros Z (n + 1))) (hp : P.length = i) (j : Nat) (z : Value) (hz : Z[j]? = some z) : w.cell? ⟨g, i + j, none⟩ = some z := by
  rw [h.cell, List.getElem?_append_right (by omega), zeros_succ, show i + j - P.length = j by omega]
  rw [List.getElem?_append_left (List.getElem?_eq_some_iff.1 hz).1]
  exact hz

/-! ### Sums over the first elements -/
def sumBy {α : Type} (f : α → Int) (L : List α) (k : Nat) : Int := ((L.take k).map f).sum
theorem sumBy_zero {α : Type} (f : α → Int) (L : List α) : sumBy f L 0 = 0 := by simp [sumBy]
theorem sumBy_succ {α : Type} {f : α → Int} {L : List α} {k : Nat} {x : α} (h : L[k]? = some x) : sumBy f L (k + 1) = sumBy f L k + f x := by
  obtain ⟨hk, rfl⟩ := List.getElem?_eq_some_iff.1 h
  unfold sumBy
  rw [List.take_succ_eq_append_getElem hk, List.map_append, List.sum_append]
  simp only [List.map_cons, List.map_nil, List.sum_cons, List.sum_nil, Int.add_zero]
theorem sumBy_bd {α : Type} {f : α → Int} {c : Int} {L : List α} (hc : 0 ≤ c) (h : ∀ (i : Nat) (x : α), L[i]? = some x → 0 ≤ f x ∧ f x ≤ c) (k : Nat) : 0 ≤ sumBy f L k ∧ sumBy f L k ≤ c * (k : Int) := by
  induction k with
  | zero => simp [sumBy]
  | succ k ih =>
    have e : c * ((k + 1 : Nat) : Int) = c * (k : Int) + c := by rw [Int.natCast_succ, Int.mul_add, Int.mul_one]
    cases hx : L[k]? with
    | none =>
      have hl : L.length ≤ k := List.getElem?_eq_none_iff.1 hx
      have e2 : sumBy f L (k + 1) = sumBy f L k := by unfold sumBy; rw [List.take_of_length_le hl, List.take_of_length_le (by omega)]
      rw [e2]; omega
    | some x =>
      have hb := h k x hx
      rw [sumBy_succ hx]
      omega

/-! ### The first number with a property -/
def firstFrom (p : Nat → Bool) : Nat → Nat → Option Nat
  | 0, _ => none
  | m + 1, k => if p k then some k else firstFrom p m (k + 1)
theorem firstFrom_some {p : Nat → Bool} : ∀ (m k q : Nat), k ≤ q → q < k + m → (∀ j, k ≤ j → j < q → p j = false) → p q = true → firstFrom p m k = some q
  | 0, k, q, h1, h2, _, _ => by omega
  | m + 1, k, q, h1, h2, h3, h4 => by
    rw [firstFrom]
    by_cases e : k = q
    · subst e; rw [if_pos h4]
    · rw [if_neg (by rw [h3 k (Nat.le_refl _) (by omega)]; simp)]
      exact firstFrom_some m (k + 1) q (by omega) (by omega) (fun j hj hq => h3 j (by omega) hq) h4
theorem firstFrom_none {p : Nat → Bool} : ∀ (m k : Nat), (∀ j, k ≤ j → j < k + m → p j = false) → firstFrom p m k = none
  | 0, _, _ => rfl
  | m + 1, k, h => by
    rw [firstFrom, if_neg (by rw [h k (Nat.le_refl _) (by omega)]; simp)]
    exact firstFrom_none m (k + 1) (fun j hj hq => h j (by omega) (by omega))
theorem getD_at {α : Type} {L : List α} {k : Nat} {x d : α} (h : L[k]? = some x) : L.getD k d = x := by simp [List.getD, h]
theorem all_of {α : Type} {p : α → Bool} {L : List α} (h : ∀ (j : Nat) (x : α), L[j]? = some x → p x = true) : L.all p = true := by
  rw [List.all_eq_true]
  intro x hx
  obtain ⟨j, hj⟩ := List.getElem?_of_mem hx
  exact h j x hj

/-! ### Writes into one block -/
theorem grown_refl (w : World) (row : Option Nat) : w.grownBy w row := ⟨rfl, rfl, rfl, Nat.le_refl _, fun _ _ _ => rfl⟩
theorem grown_set {w w' : World} {g : Nat} (h : w.grownBy w' (some g)) (i : Nat) (u : Value) : w.grownBy (w'.setCell ⟨g, i, none⟩ u) (some g) :=
  ⟨h.os, h.tape, h.output, by simpa [World.setCell] using h.size, fun k hk hne => (Below.heap_setCell w' ⟨g, i, none⟩ u k (fun e => hne (by rw [e]))).trans (h.block k hk hne)⟩
theorem flat_split {α : Type} {enc : α → List Value} {L : List α} {k : Nat} {x : α} (h : L[k]? = some x) (rest : List Value) : L.flatMap enc ++ rest = (L.take k).flatMap enc ++ (enc x ++ ((L.drop (k + 1)).flatMap enc ++ rest)) := by
  obtain ⟨hk, rfl⟩ := List.getElem?_eq_some_iff.1 h
  have e : L = L.take k ++ (L[k] :: L.drop (k + 1)) := by rw [← drop_cons hk, List.take_append_drop]
  conv => lhs; rw [e]
  rw [List.flatMap_append, List.flatMap_cons, List.append_assoc, List.append_assoc]
theorem set_split {α : Type} {L : List α} {k : Nat} {x : α} (hk : k < L.length) : L.set k x = L.take k ++ x :: L.drop (k + 1) := by
  rw [List.set_eq_take_append_cons_drop, if_pos hk]
theorem flat_set_split {α : Type} {enc : α → List Value} {L : List α} {k : Nat} {y : α} (hk : k < L.length) (rest : List Value) : (L.set k y).flatMap enc ++ rest = (L.take k).flatMap enc ++ (enc y ++ ((L.drop (k + 1)).flatMap enc ++ rest)) := by
  rw [set_split hk, List.flatMap_append, List.flatMap_cons, List.append_assoc, List.append_assoc]
section
variable {α : Type} {enc : α → List Value} {L : List α} {k : Nat} {x : α} {rest : List Value}
theorem take_flat_len {sz : Nat} (hs : ∀ x, (enc x).length = sz) (hk : k ≤ L.length) : ((L.take k).flatMap enc).length = k * sz := by
  rw [flatMap_len hs, List.length_take, Nat.min_eq_left hk]
theorem enc_1 (hs : ∀ x, (enc x).length = 1) (x : α) : ∃ a, enc x = [a] := List.length_eq_one_iff.1 (hs x)
theorem flat_set1 (hs : ∀ x, (enc x).length = 1) (h : L[k]? = some x) (y : α) {a : Value} (hy : enc y = [a]) : (L.flatMap enc ++ rest).set k a = (L.set k y).flatMap enc ++ rest := by
  have hk := (List.getElem?_eq_some_iff.1 h).1
  have hx := hs x
  rw [flat_split h, flat_set_split hk, hy]
  match e : enc x, hx with
  | [z], _ => exact (set_1 (by have := take_flat_len (k := k) hs (Nat.le_of_lt hk); omega)).trans (by rw [List.append_assoc]; rfl)
theorem flat_set2 (hs : ∀ x, (enc x).length = 2) (h : L[k]? = some x) (y : α) {a b : Value} (hy : enc y = [a, b]) : ((L.flatMap enc ++ rest).set (k * 2) a).set (k * 2 + 1) b = (L.set k y).flatMap enc ++ rest := by
  have hk := (List.getElem?_eq_some_iff.1 h).1
  have hx := hs x
  rw [flat_split h, flat_set_split hk, hy]
  match e : enc x, hx with
  | [z, z'], _ => exact (set_2 (take_flat_len (k := k) hs (Nat.le_of_lt hk))).trans (by rw [List.append_assoc]; rfl)
theorem flat_set3 (hs : ∀ x, (enc x).length = 3) (h : L[k]? = some x) (y : α) {a b c : Value} (hy : enc y = [a, b, c]) : (((L.flatMap enc ++ rest).set (k * 3) a).set (k * 3 + 1) b).set (k * 3 + 2) c = (L.set k y).flatMap enc ++ rest := by
  have hk := (List.getElem?_eq_some_iff.1 h).1
  have hx := hs x
  rw [flat_split h, flat_set_split hk, hy]
  match e : enc x, hx with
  | [z, z', z''], _ => exact (set_3 (take_flat_len (k := k) hs (Nat.le_of_lt hk))).trans (by rw [List.append_assoc]; rfl)
theorem flat_set4 (hs : ∀ x, (enc x).length = 4) (h : L[k]? = some x) (y : α) {a b c d : Value} (hy : enc y = [a, b, c, d]) : ((((L.flatMap enc ++ rest).set (k * 4) a).set (k * 4 + 1) b).set (k * 4 + 2) c).set (k * 4 + 3) d = (L.set k y).flatMap enc ++ rest := by
  have hk := (List.getElem?_eq_some_iff.1 h).1
  have hx := hs x
  rw [flat_split h, flat_set_split hk, hy]
  match e : enc x, hx with
  | [z, z', z'', z3], _ => exact (set_4 (take_flat_len (k := k) hs (Nat.le_of_lt hk))).trans (by rw [List.append_assoc]; rfl)
theorem flat_at {sz : Nat} (hs : ∀ x, (enc x).length = sz) (h : L[k]? = some x) (j : Nat) (v : Value) (hv : (enc x)[j]? = some v) : (L.flatMap enc ++ rest)[k * sz + j]? = some v := by
  obtain ⟨hk, rfl⟩ := List.getElem?_eq_some_iff.1 h
  have h1 := flatMap_at hs L k hk j v hv
  rw [List.getElem?_append_left (List.getElem?_eq_some_iff.1 h1).1]; exact h1
theorem Blk.cell_el {sz : Nat} {w : World} {g : Nat} {t : TypeId} (hB : Blk w g t (L.flatMap enc ++ rest)) (hs : ∀ x, (enc x).length = sz) (h : L[k]? = some x) (j : Nat) (v : Value) (hv : (enc x)[j]? = some v) : w.cell? ⟨g, k * sz + j, none⟩ = some v := by
  rw [hB.cell]; exact flat_at hs h j v hv
end

/-! ### append of one element -/
theorem wpList_app {P : Program} {ops : Array Oper} {rest : List Oper} {o : Oper} {a : Act} {Q : Exit → Act → World → Prop} {wr : World} (s x : Operand) (t : TypeId) (hgd : o.guard = none)
    (ho : o.op = .call { callee := .builtin .append, args := #[s, x], argTypes := #[t, t] }) (w0 : World)
    (E : TypeId) (i : TypeInfo) (z : Value) (sz bytes : Nat) (ht : P.underlying t = some (.slice E)) (hi : P.info? E = some i) (hz : i.zero = some z)
    (hsize : i.size = sz) (hby : i.bytes = bytes) (hzs : z.cells.size = sz) (hsz : 0 < sz)
    {α : Type} {enc : α → List Value} (hs : ∀ x, (enc x).length = sz) (h1 : ∀ y, ∀ u ∈ enc y, u.oneCell' = true) (v : Value) (L : List α) (y : α)
    (hv : a.eval s = v) (hown : Own enc sz wr w0.heap.size E v L) (hb : Below w0.heap.size w0 wr) {g : Nat} (hx : a.eval x = .slice (some ⟨g, 0, none⟩) 1 1) (hgs : g = wr.heap.size)
    (h63 : L.length + 1 ≤ maxLen) (hbytes : (L.length + 1) * bytes ≤ 140737488355328)
    (h : ∀ v' w', Own enc sz w' w0.heap.size E v' (L ++ [y]) → Below w0.heap.size w0 w' → wpList P ops Q rest (a.put o.dst v') w') : wpList P ops Q (o :: rest) a (wr.alloc (.cells (enc y).toArray E)) := by
  have hsz1 := hb.size
  subst hgs
  refine wpList_append_own (wr.alloc (.cells (enc y).toArray E)) hgd s x t ho w0.heap.size E i z sz bytes ht hi hz hsize hby hzs hsz v L.length (L.flatMap enc) hv (World.ownsRow.alloc hown _) ⟨wr.heap.size, 0, none⟩ 1 1 (enc y) hx (by rw [hs]; omega) ?_ (h1 y) h63 hbytes (by simp; omega) ?_
  · intro j u hu
    rw [show ((⟨wr.heap.size, 0, none⟩ : Addr).add j) = ⟨wr.heap.size, j, none⟩ by unfold Addr.add; split <;> simp_all]
    have := (Blk.new wr E (enc y).toArray).cell j
    rw [this]; simpa using hu
  · intro v' w' hown' hg _
    refine h v' w' ?_ ((hb.alloc hsz1 _).grown hg (by simp; omega) (fun k hk => (hown.lt k hk).1))
    have e : (L ++ [y]).flatMap enc = L.flatMap enc ++ enc y := by simp
    have e2 : (L ++ [y]).length = L.length + 1 := by simp
    unfold Own
    rw [e, e2]
    exact hown'

/-- the numbers below n with a property -/
def whr (p : Nat → Bool) (n : Nat) : List Int := ((List.range n).filter p).map (fun j : Nat => (j : Int))
theorem whr_zero (p : Nat → Bool) : whr p 0 = [] := rfl
theorem whr_yes {p : Nat → Bool} {n : Nat} (h : p n = true) : whr p (n + 1) = whr p n ++ [(n : Int)] := by simp [whr, List.range_succ, h]
theorem whr_no {p : Nat → Bool} {n : Nat} (h : p n = false) : whr p (n + 1) = whr p n := by simp [whr, List.range_succ, h]
theorem whr_len (p : Nat → Bool) (n : Nat) : (whr p n).length ≤ n := by
  simp only [whr, List.length_map]
  exact Nat.le_trans (List.length_filter_le _ _) (by simp)
theorem own_empty {α : Type} {enc : α → List Value} {sz : Nat} (w : World) (E : TypeId) : Own enc sz (w.alloc (.cells #[] E)) w.heap.size E (.slice (some ⟨w.heap.size, 0, none⟩) 0 0) ([] : List α) :=
  ⟨by simp, .inr ⟨w.heap.size, 0, #[], rfl, Nat.le_refl _, heap_alloc_new w _, Nat.le_refl _, by unfold maxLen; omega, by simp, by simp⟩⟩
theorem own_empty_at {α : Type} {enc : α → List Value} {sz base : Nat} {w : World} {E : TypeId} (h : base ≤ w.heap.size) : Own enc sz (w.alloc (.cells #[] E)) base E (.slice (some ⟨w.heap.size, 0, none⟩) 0 0) ([] : List α) := (own_empty w E).base_ h
theorem Blk.cell_at {w : World} {g g' : Nat} {t : TypeId} {cs : List Value} (h : Blk w g t cs) (e : g' = g) (i : Nat) {v : Value} (hv : cs[i]? = some v) : w.cell? ⟨g', i, none⟩ = some v := by
  rw [e, h.cell]; exact hv

/-! ### What a law's walk wants of owned rows -/
theorem own_apart2 {α β : Type} {enc : α → List Value} {enc' : β → List Value} {sz sz' base base' : Nat} {E E' : TypeId} {v v' : Value} {L : List α} {L' : List β} {w0 w' : World} (h : Own enc sz w0 base E v L) (h' : Own enc' sz' w' base' E' v' L') (hb : w0.heap.size ≤ base') : v'.ownBlock = none ∨ v'.ownBlock ≠ v.ownBlock := by
  rcases h'.2 with ⟨rfl, _⟩ | ⟨g', cap', cur', rfl, hb', hg', _⟩
  · exact .inl rfl
  · right
    rcases h.2 with ⟨rfl, _⟩ | ⟨g, cap, cur, rfl, hb1, hg, _⟩
    · simp [Value.ownBlock]
    · have := (Array.getElem?_eq_some_iff.1 hg).1
      simp only [Value.ownBlock, ne_eq, Option.some.injEq]; omega
theorem apart_symm {v v' : Value} (h : v.ownBlock = none ∨ v.ownBlock ≠ v'.ownBlock) : v'.ownBlock = none ∨ v'.ownBlock ≠ v.ownBlock := by
  rcases h with h | h
  · cases h' : v'.ownBlock
    · exact .inl rfl
    · right; rw [h]; simp
  · exact .inr (Ne.symm h)
theorem own_form {α : Type} {enc : α → List Value} {sz base : Nat} {E : TypeId} {v : Value} {L : List α} {w : World} (h : Own enc sz w base E v L) : ∃ A c, v = .slice A L.length c := by
  rcases h.2 with ⟨rfl, hn⟩ | ⟨g, cap, cur, rfl, _⟩
  · exact ⟨none, 0, by rw [hn]⟩
  · exact ⟨_, _, rfl⟩
theorem Own.rd_ {α : Type} {enc : α → List Value} {sz base n c : Nat} {E : TypeId} {A : Option Addr} {L : List α} {w : World} (hs : ∀ x, (enc x).length = sz) (h : Own enc sz w base E (.slice A n c) L) (_ : n = L.length) : Rd enc sz w w.heap.size A L := by
  obtain ⟨A', c', e, hr, _⟩ := Own.rd hs h
  injection e with e1
  rw [e1]; exact hr
theorem len_x1 (x : Int) : (e1 x).length = 1 := rfl
theorem len_xb (x : Bool) : (eb x).length = 1 := rfl
theorem len_x2 (x : Int × Int) : (e2 x).length = 2 := rfl
theorem len_x3 (x : Int × Int × Int) : (e3 x).length = 3 := rfl
theorem len_xg (x : Bool × Int × Int) : (eg x).length = 3 := rfl
theorem len_x4 (x : Int × Int × Int × Int) : (e4 x).length = 4 := rfl
theorem below_alloc1 (w : World) (o : Obj) : Below w.heap.size w (w.alloc o) := (Below.refl _ _).alloc (Nat.le_refl _) o
theorem below_drewN_ (w : World) (n : Nat) : Below w.heap.size w (w.drewN n) := bel_dN (Below.refl _ _) n
theorem set_same {α : Type} {l : List α} {i : Nat} {a : α} (h : l[i]? = some a) : l.set i a = l := by
  obtain ⟨hi, rfl⟩ := List.getElem?_eq_some_iff.1 h
  exact List.set_getElem_self hi
theorem flat_set2a {L : List (Int × Int)} {rest : List Value} {k : Nat} {x : Int × Int} (h : L[k]? = some x) (a : Int) : (L.flatMap e2 ++ rest).set (k * 2) (.int .i64 a) = (L.set k (a, x.2)).flatMap e2 ++ rest := by
  rw [← flat_set2 len_x2 h (a, x.2) rfl]
  refine (set_same ?_).symm
  rw [List.getElem?_set_ne (by omega)]
  exact flat_at len_x2 h 1 _ rfl
theorem Own.cast {α : Type} {enc : α → List Value} {sz base n n' c : Nat} {E : TypeId} {A : Option Addr} {L : List α} {w : World} (h : Own enc sz w base E (.slice A n c) L) (e : n' = n) : Own enc sz w base E (.slice A n' c) L := e ▸ h
theorem kc2 {B : Nat} {w wr w2 : World} (hb : Below B w wr) (hb2 : Below B w w2) {p : Addr} (hp : p.block < B) {v : Value} (h : wr.cell? p = some v) : w2.cell? p = some v := (hb2.cell hp).trans ((hb.cell hp).symm.trans h)
/-- append of one element inside a region that draws its order -/
theorem step_app {P : Program} {ops : Array Oper} {o : Oper} {a : Act} {K : Act → World → Prop} {Q : Exit → Act → World → Prop} {X : Prop} {wr : World} (s x : Operand) (t : TypeId) (hgd : o.guard = none)
    (ho : o.op = .call { callee := .builtin .append, args := #[s, x], argTypes := #[t, t] }) (w0 : World)
    (E : TypeId) (i : TypeInfo) (z : Value) (sz bytes : Nat) (ht : P.underlying t = some (.slice E)) (hi : P.info? E = some i) (hz : i.zero = some z)
    (hsize : i.size = sz) (hby : i.bytes = bytes) (hzs : z.cells.size = sz) (hsz : 0 < sz)
    {α : Type} {enc : α → List Value} (hs : ∀ x, (enc x).length = sz) (h1 : ∀ y, ∀ u ∈ enc y, u.oneCell' = true) (v : Value) (L : List α) (y : α)
    (hv : a.eval s = v) (hown : Own enc sz wr w0.heap.size E v L) (hb : Below w0.heap.size w0 wr) {g : Nat} (hx : a.eval x = .slice (some ⟨g, 0, none⟩) 1 1) (hgs : g = wr.heap.size)
    (h63 : L.length + 1 ≤ maxLen) (hbytes : (L.length + 1) * bytes ≤ 140737488355328)
    (h : ∀ v' w', Own enc sz w' w0.heap.size E v' (L ++ [y]) → Below w0.heap.size w0 w' → K (a.put o.dst v') w') : if Region.wanted o (yielded ops a.tmps) = true then Oper.wp P o a (wr.alloc (.cells (enc y).toArray E)) K Q else X := by
  have hsz1 := hb.size
  subst hgs
  rw [if_pos (by simp [Region.wanted, hgd])]
  refine wp_append_own (wr.alloc (.cells (enc y).toArray E)) s x t ho w0.heap.size E i z sz bytes ht hi hz hsize hby hzs hsz v L.length (L.flatMap enc) hv (World.ownsRow.alloc hown _) ⟨wr.heap.size, 0, none⟩ 1 1 (enc y) hx (by rw [hs]; omega) ?_ (h1 y) h63 hbytes (by simp; omega) ?_
  · intro j u hu
    rw [show ((⟨wr.heap.size, 0, none⟩ : Addr).add j) = ⟨wr.heap.size, j, none⟩ by unfold Addr.add; split <;> simp_all]
    have := (Blk.new wr E (enc y).toArray).cell j
    rw [this]; simpa using hu
  · intro v' w' hown' hg _
    refine h v' w' ?_ ((hb.alloc hsz1 _).grown hg (by simp; omega) (fun k hk => (hown.lt k hk).1))
    have e : (L ++ [y]).flatMap enc = L.flatMap enc ++ enc y := by simp
    have e2 : (L ++ [y]).length = L.length + 1 := by simp
    unfold Own
    rw [e, e2]
    exact hown'
theorem below_drew_ (w : World) : Below w.heap.size w w.drew := (Below.refl _ _).drew
theorem flatMap_inv {α : Type} {enc : α → List Value} {sz : Nat} (hs : ∀ x, (enc x).length = sz) : ∀ (L : List α) (i : Nat) (u : Value), (L.flatMap enc)[i]? = some u → ∃ (k : Nat) (hk : k < L.length) (j : Nat), i = k * sz + j ∧ (enc L[k])[j]? = some u
  | [], i, u, h => by simp at h
  | x :: r, i, u, h => by
    rw [List.flatMap_cons] at h
    by_cases hi : i < sz
    · rw [List.getElem?_append_left (by rw [hs]; exact hi)] at h
      exact ⟨0, by simp, i, by simp, by simpa using h⟩
    · rw [List.getElem?_append_right (by rw [hs]; omega), hs] at h
      obtain ⟨k, hk, j, e, hj⟩ := flatMap_inv hs r (i - sz) u h
      exact ⟨k + 1, by simpa using hk, j, by rw [Nat.add_mul]; omega, by simpa using hj⟩
/-- append of a whole slice that reads as a list with elements -/
theorem wpList_appS {P : Program} {ops : Array Oper} {rest : List Oper} {o : Oper} {a : Act} {Q : Exit → Act → World → Prop} {wr : World} (s x : Operand) (t : TypeId) (hgd : o.guard = none)
    (ho : o.op = .call { callee := .builtin .append, args := #[s, x], argTypes := #[t, t] }) (w0 : World)
    (E : TypeId) (i : TypeInfo) (z : Value) (sz bytes : Nat) (ht : P.underlying t = some (.slice E)) (hi : P.info? E = some i) (hz : i.zero = some z)
    (hsize : i.size = sz) (hby : i.bytes = bytes) (hzs : z.cells.size = sz) (hsz : 0 < sz)
    {α : Type} {enc : α → List Value} (hs : ∀ x, (enc x).length = sz) (h1 : ∀ y, ∀ u ∈ enc y, u.oneCell' = true) (v : Value) (L M : List α)
    (hv : a.eval s = v) (hown : Own enc sz wr w0.heap.size E v L) (hb : Below w0.heap.size w0 wr) {A : Option Addr} {c B : Nat} (hx : a.eval x = .slice A M.length c) (hR : Rd enc sz wr B A M) (hpos : 0 < M.length)
    (h63 : L.length + M.length ≤ maxLen) (hbytes : (L.length + M.length) * bytes ≤ 140737488355328)
    (h : ∀ v' w', Own enc sz w' w0.heap.size E v' (L ++ M) → Below w0.heap.size w0 w' → wpList P ops Q rest (a.put o.dst v') w') : wpList P ops Q (o :: rest) a wr := by
  have hsz1 := hb.size
  obtain ⟨b, off, rfl, hbB, hc⟩ := hR hpos
  refine wpList_append_own wr hgd s x t ho w0.heap.size E i z sz bytes ht hi hz hsize hby hzs hsz v L.length (L.flatMap enc) hv hown ⟨b, off, none⟩ M.length c (M.flatMap enc) hx (flatMap_len hs M) ?_ (fun u hu => by obtain ⟨y, _, hy⟩ := List.mem_flatMap.1 hu; exact h1 y u hy) h63 hbytes hsz1 ?_
  · intro j u hu
    obtain ⟨k, hk, r, rfl, hr⟩ := flatMap_inv hs M j u hu
    rw [show ((⟨b, off, none⟩ : Addr).add (k * sz + r)) = ⟨b, off + k * sz + r, none⟩ by unfold Addr.add; split <;> simp_all <;> omega]
    exact hc k hk r u hr
  · intro v' w' hown' hg _
    refine h v' w' ?_ (hb.grown hg hsz1 (fun k hk => (hown.lt k hk).1))
    have e : (L ++ M).flatMap enc = L.flatMap enc ++ M.flatMap enc := by simp
    have e2 : (L ++ M).length = L.length + M.length := by simp
    unfold Own
    rw [e, e2]
    exact hown'
/-- append of one element, with what it says of other rows -/
theorem wpList_app2 {P : Program} {ops : Array Oper} {rest : List Oper} {o : Oper} {a : Act} {Q : Exit → Act → World → Prop} {wr : World} (s x : Operand) (t : TypeId) (hgd : o.guard = none)
    (ho : o.op = .call { callee := .builtin .append, args := #[s, x], argTypes := #[t, t] }) (w0 : World)
    (E : TypeId) (i : TypeInfo) (z : Value) (sz bytes : Nat) (ht : P.underlying t = some (.slice E)) (hi : P.info? E = some i) (hz : i.zero = some z)
    (hsize : i.size = sz) (hby : i.bytes = bytes) (hzs : z.cells.size = sz) (hsz : 0 < sz)
    {α : Type} {enc : α → List Value} (hs : ∀ x, (enc x).length = sz) (h1 : ∀ y, ∀ u ∈ enc y, u.oneCell' = true) (v : Value) (L : List α) (y : α)
    (hv : a.eval s = v) (hown : Own enc sz wr w0.heap.size E v L) (hb : Below w0.heap.size w0 wr) {g : Nat} (hx : a.eval x = .slice (some ⟨g, 0, none⟩) 1 1) (hgs : g = wr.heap.size)
    (h63 : L.length + 1 ≤ maxLen) (hbytes : (L.length + 1) * bytes ≤ 140737488355328)
    (h : ∀ v' w', Own enc sz w' w0.heap.size E v' (L ++ [y]) → Below w0.heap.size w0 w' → wr.grownBy w' v.ownBlock → (v'.ownBlock = v.ownBlock ∨ ∃ g, v'.ownBlock = some g ∧ wr.heap.size ≤ g) → wpList P ops Q rest (a.put o.dst v') w') : wpList P ops Q (o :: rest) a (wr.alloc (.cells (enc y).toArray E)) := by
  have hsz1 := hb.size
  subst hgs
  refine wpList_append_own_at (wr.alloc (.cells (enc y).toArray E)) hgd s x t ho w0.heap.size E i z sz bytes ht hi hz hsize hby hzs hsz v L.length (L.flatMap enc) hv (World.ownsRow.alloc hown _) ⟨wr.heap.size, 0, none⟩ 1 1 (enc y) hx (by rw [hs]; omega) ?_ (h1 y) h63 hbytes (by simp; omega) ?_
  · intro j u hu
    rw [show ((⟨wr.heap.size, 0, none⟩ : Addr).add j) = ⟨wr.heap.size, j, none⟩ by unfold Addr.add; split <;> simp_all]
    have := (Blk.new wr E (enc y).toArray).cell j
    rw [this]; simpa using hu
  · intro v' w' hown' hg _ hat
    refine h v' w' ?_ ((hb.alloc hsz1 _).grown hg (by simp; omega) (fun k hk => (hown.lt k hk).1)) (World.grownBy.trans (bel_grown (below_alloc1 wr _) _) hg) (hat.imp id fun e => ⟨_, e, by simp⟩)
    have e : (L ++ [y]).flatMap enc = L.flatMap enc ++ enc y := by simp
    have e2 : (L ++ [y]).length = L.length + 1 := by simp
    unfold Own
    rw [e, e2]
    exact hown'
/-- another row behind an append -/
theorem own_other {α : Type} {enc : α → List Value} {sz base : Nat} {E : TypeId} {u v v' : Value} {M : List α} {wr w' : World} (hu : Own enc sz wr base E u M) (ap : u.ownBlock = none ∨ u.ownBlock ≠ v.ownBlock) (hg : wr.grownBy w' v.ownBlock)
    (hat : v'.ownBlock = v.ownBlock ∨ ∃ g, v'.ownBlock = some g ∧ wr.heap.size ≤ g) : Own enc sz w' base E u M ∧ (u.ownBlock = none ∨ u.ownBlock ≠ v'.ownBlock) := by
  refine ⟨hu.grown_ hg ap, ?_⟩
  rcases hat with e | ⟨g, e, hgl⟩
  · rw [e]; exact ap
  · rw [e]
    cases h : u.ownBlock with
    | none => exact .inl rfl
    | some k =>
      right
      have := (hu.lt k h).2
      intro e2
      injection e2 with e3
      omega
/-- a part of a slice that reads as a list -/
theorem Rd.part {α : Type} {enc : α → List Value} {sz B : Nat} {w : World} {b off : Nat} {xs : List α} (h : Rd enc sz w B (some ⟨b, off, none⟩) xs) (lo n : Nat) (hl : lo + n ≤ xs.length) : Rd enc sz w B (some ⟨b, off + lo * sz, none⟩) ((xs.drop lo).take n) := fun h0 => by
  have hlen : ((xs.drop lo).take n).length = n := by simp; omega
  obtain ⟨b', off', e, hb, hc⟩ := h (by omega)
  simp only [Option.some.injEq, Addr.mk.injEq, and_true] at e
  obtain ⟨rfl, rfl⟩ := e
  refine ⟨_, _, rfl, hb, fun k hk j v hv => ?_⟩
  have h1 := hc (lo + k) (by omega) j v (by simpa using hv)
  rw [show off + lo * sz + k * sz + j = off + (lo + k) * sz + j by rw [Nat.add_mul]; omega]
  exact h1
theorem cell_grown {w w' : World} {row : Option Nat} (hg : w.grownBy w' row) {p : Addr} (hb : p.block < w.heap.size) (hne : some p.block ≠ row) {v : Value} (h : w.cell? p = some v) : w'.cell? p = some v := (World.grownBy.cell_far hg p hb hne).trans h
theorem own_lt {α : Type} {enc : α → List Value} {sz base : Nat} {E : TypeId} {v : Value} {L : List α} {w : World} (h : Own enc sz w base E v L) {b : Nat} (hb : w.heap.size ≤ b) : some b ≠ v.ownBlock := fun e => by have := (h.lt b e.symm).2; omega
theorem own_ge {α : Type} {enc : α → List Value} {sz base : Nat} {E : TypeId} {v : Value} {L : List α} {w : World} (h : Own enc sz w base E v L) {b : Nat} (hb : b < base) : some b ≠ v.ownBlock := fun e => by have := (h.lt b e.symm).1; omega
/-- two empty rows made one behind the other -/
theorem apart_new {a b : Nat} {c d : Nat} (h : a ≠ b) : (Value.slice (some ⟨a, 0, none⟩) 0 c).ownBlock = none ∨ (Value.slice (some ⟨a, 0, none⟩) 0 c).ownBlock ≠ (Value.slice (some ⟨b, 0, none⟩) 0 d).ownBlock := by
  right; simp [Value.ownBlock]; exact h
theorem own_empty2 {α : Type} {enc : α → List Value} {sz base : Nat} {w : World} {E : TypeId} (h : base ≤ w.heap.size) : Own enc sz ((w.alloc (.cells #[] E)).alloc (.cells #[] E)) base E (.slice (some ⟨w.heap.size + 1, 0, none⟩) 0 0) ([] : List α) := by
  have := own_empty_at (enc := enc) (sz := sz) (base := base) (E := E) (w := w.alloc (.cells #[] E)) (by simp; omega)
  rwa [World.size_alloc] at this
/-- append of one element inside a region that draws its order, with what it says of other rows -/
theorem step_app2 {P : Program} {ops : Array Oper} {o : Oper} {a : Act} {K : Act → World → Prop} {Q : Exit → Act → World → Prop} {X : Prop} {wr : World} (s x : Operand) (t : TypeId) (hgd : o.guard = none)
    (ho : o.op = .call { callee := .builtin .append, args := #[s, x], argTypes := #[t, t] }) (w0 : World)
    (E : TypeId) (i : TypeInfo) (z : Value) (sz bytes : Nat) (ht : P.underlying t = some (.slice E)) (hi : P.info? E = some i) (hz : i.zero = some z)
    (hsize : i.size = sz) (hby : i.bytes = bytes) (hzs : z.cells.size = sz) (hsz : 0 < sz)
    {α : Type} {enc : α → List Value} (hs : ∀ x, (enc x).length = sz) (h1 : ∀ y, ∀ u ∈ enc y, u.oneCell' = true) (v : Value) (L : List α) (y : α)
    (hv : a.eval s = v) (hown : Own enc sz wr w0.heap.size E v L) (hb : Below w0.heap.size w0 wr) {g : Nat} (hx : a.eval x = .slice (some ⟨g, 0, none⟩) 1 1) (hgs : g = wr.heap.size)
    (h63 : L.length + 1 ≤ maxLen) (hbytes : (L.length + 1) * bytes ≤ 140737488355328)
    (h : ∀ v' w', Own enc sz w' w0.heap.size E v' (L ++ [y]) → Below w0.heap.size w0 w' → wr.grownBy w' v.ownBlock → (v'.ownBlock = v.ownBlock ∨ ∃ g, v'.ownBlock = some g ∧ wr.heap.size ≤ g) → K (a.put o.dst v') w') : if Region.wanted o (yielded ops a.tmps) = true then Oper.wp P o a (wr.alloc (.cells (enc y).toArray E)) K Q else X := by
  rw [if_pos (by simp [Region.wanted, hgd])]
  have hsz1 := hb.size
  subst hgs
  unfold Oper.wp execOp
  obtain ⟨v', w', hr, h2, h3, h4, h5⟩ := run_append_own_at (P := P) (wr.alloc (.cells (enc y).toArray E)) w0.heap.size t o.type E i z sz bytes ht hi hz hsize hby hzs hsz v L.length (L.flatMap enc) (World.ownsRow.alloc hown _) ⟨wr.heap.size, 0, none⟩ 1 1 (enc y) (by rw [hs]; omega) (by
    intro j u hu
    rw [show ((⟨wr.heap.size, 0, none⟩ : Addr).add j) = ⟨wr.heap.size, j, none⟩ by unfold Addr.add; split <;> simp_all]
    have := (Blk.new wr E (enc y).toArray).cell j
    rw [this]; simpa using hu) (h1 y) h63 hbytes (by simp; omega)
  simp only [ho, resolve, invoke, builtin, Sem.run_bind, Sem.run_pure, Result.andThen_ok, List.map_toArray, List.map_cons, List.map_nil, hv, hx, hr]
  refine h v' w' ?_ ((hb.alloc hsz1 _).grown h3 (by simp; omega) (fun k hk => (hown.lt k hk).1)) (World.grownBy.trans (bel_grown (below_alloc1 wr _) _) h3) (h5.imp id fun e => ⟨_, e, by simp⟩)
  have e : (L ++ [y]).flatMap enc = L.flatMap enc ++ enc y := by simp
  have e2 : (L ++ [y]).length = L.length + 1 := by simp
  unfold Own
  rw [e, e2]
  exact h2
theorem own_cap {α : Type} {enc : α → List Value} {sz base n c : Nat} {E : TypeId} {A : Option Addr} {L : List α} {w : World} (h : Own enc sz w base E (.slice A n c) L) : n ≤ c ∧ c ≤ maxLen := by
  rcases h.2 with ⟨hv, hn⟩ | ⟨g, cap, cur, hv, hb, hg, hnc, hcm, hcs, htake⟩
  · simp only [Value.slice.injEq] at hv; obtain ⟨_, rfl, rfl⟩ := hv; unfold maxLen; omega
  · simp only [Value.slice.injEq] at hv; obtain ⟨_, rfl, rfl⟩ := hv; exact ⟨hnc, hcm⟩
theorem Rd.part1 {α : Type} {enc : α → List Value} {B : Nat} {w : World} {b off : Nat} {xs : List α} (h : Rd enc 1 w B (some ⟨b, off, none⟩) xs) (lo n : Nat) (hl : lo + n ≤ xs.length) : Rd enc 1 w B (some ⟨b, off + lo, none⟩) ((xs.drop lo).take n) := by
  have := h.part lo n hl
  rwa [Nat.mul_one] at this
theorem part_len {α : Type} {xs : List α} {lo n : Nat} (hl : lo + n ≤ xs.length) : ((xs.drop lo).take n).length = n := by simp; omega
theorem part_at {α : Type} {xs : List α} {lo n i : Nat} {x : α} (h : ((xs.drop lo).take n)[i]? = some x) : xs[lo + i]? = some x := by
  rw [List.getElem?_take] at h
  split at h
  · rwa [List.getElem?_drop] at h
  · cases h


end Go.Proofs.YtcdpgdpabmlpdaaDoor
