/- Slices of slices that a function gathers row by row; held against the marks. -/
import Derived.Test.YtcdpgdpabmlpdaaSS2
namespace Go.Proofs.Ytcdpgdpabmlpdaa
open Go.RowKit

section
variable {α : Type} {enc : α → List Value} {sz : Nat} {w w' w1 : World} {a b : Nat} {E TE : TypeId} {v v' u : Value} {vs : List Value} {f : Nat → List α}
theorem OwnV.made (ho : Own ev 1 w a TE v vs) (hi : InV enc sz w a E vs f) (hf : ∀ (k : Nat) (u : Value), vs[k]? = some u → Apart u v) : OwnV enc sz w a w.heap.size E TE v vs f :=
  ⟨ho, hi, hf, fun g hg => (ho.lt g hg).2, fun k u hu g hg => ((hi k u hu).1.lt g hg).2⟩
theorem OwnV.nil_ : OwnV enc sz w a b E TE (.slice none 0 0) [] f :=
  ⟨Own.nil_, InV.nil_, fun k u h => by simp at h, fun g h => by simp [Value.ownBlock] at h, fun k u h => by simp at h⟩
theorem OwnV.empty_ (h : a ≤ w.heap.size) : OwnV enc sz (w.alloc (.cells #[] TE)) a (w.alloc (.cells #[] TE)).heap.size E TE (.slice (some ⟨w.heap.size, 0, none⟩) 0 0) [] f :=
  OwnV.made (own_empty_at h) InV.nil_ (fun k u h => by simp at h)
theorem OwnV.top_ (h : OwnV enc sz w a b E TE v vs f) : OwnV enc sz w a w.heap.size E TE v vs f := OwnV.made h.outer h.inner h.far
theorem InV.grown_ (h : InV enc sz w a E vs f) {row : Option Nat} (hg : w.grownBy w' row) (hf : ∀ (k : Nat) (u : Value), vs[k]? = some u → u.ownBlock = none ∨ u.ownBlock ≠ row) : InV enc sz w' a E vs f := fun k u hu => ⟨(h k u hu).1.grown_ hg (hf k u hu), (h k u hu).2⟩
/-- one more row, made by itself -/
theorem InV.push {l : List α} (h : InV enc sz w a E vs f) (hu : Own enc sz w a E u l) (hap : ∀ (k : Nat) (x : Value), vs[k]? = some x → Apart x u) : InV enc sz w a E (vs ++ [u]) (fun j => if j < vs.length then f j else l) := fun k x hx => by
  rcases Nat.lt_trichotomy k vs.length with hk | hk | hk
  · rw [List.getElem?_append_left hk] at hx
    simp only [if_pos hk]
    refine ⟨(h k x hx).1, fun j u' hj hu' => ?_⟩
    rw [List.getElem?_append_left (by omega)] at hu'
    exact (h k x hx).2 j u' hj hu'
  · subst hk
    rw [List.getElem?_append_right (Nat.le_refl _), Nat.sub_self] at hx
    simp only [List.getElem?_cons_zero, Option.some.injEq] at hx
    subst hx
    simp only [Nat.lt_irrefl, if_false]
    refine ⟨hu, fun j u' hj hu' => ?_⟩
    rw [List.getElem?_append_left hj] at hu'
    exact hap j u' hu'
  · rw [List.getElem?_eq_none (by simp; omega)] at hx; cases hx
theorem OwnV.push {l : List α} (h : OwnV enc sz w a b E TE v vs f) (hs : a ≤ w.heap.size) (hb : Below w.heap.size w w1) (hu : Own enc sz w1 w.heap.size E u l) (ho : Own ev 1 w' a TE v' (vs ++ [u])) (hg : w1.grownBy w' v.ownBlock)
    (hat : v'.ownBlock = v.ownBlock ∨ ∃ g, v'.ownBlock = some g ∧ w1.heap.size ≤ g) : OwnV enc sz w' a w'.heap.size E TE v' (vs ++ [u]) (fun j => if j < vs.length then f j else l) := by
  have key : ∀ (k : Nat) (x : Value), vs[k]? = some x → Own enc sz w' a E x (f k) ∧ Apart x v' := fun k x hx => own_other ((h.inner k x hx).1.call hb) (h.far k x hx) hg hat
  have ku := own_other hu (own_apart2 h.outer hu (Nat.le_refl _)) hg hat
  refine OwnV.made ho (InV.push (fun k x hx => ⟨(key k x hx).1, (h.inner k x hx).2⟩) (ku.1.base_ hs) (fun k x hx => own_apart (h.inner k x hx).1 hu (Nat.le_refl _))) (fun k x hx => ?_)
  rcases Nat.lt_trichotomy k vs.length with hk | hk | hk
  · rw [List.getElem?_append_left hk] at hx
    exact (key k x hx).2
  · subst hk
    rw [List.getElem?_append_right (Nat.le_refl _), Nat.sub_self] at hx
    simp only [List.getElem?_cons_zero, Option.some.injEq] at hx
    subst hx
    exact ku.2
  · rw [List.getElem?_eq_none (by simp; omega)] at hx; cases hx
theorem OwnV.congr {g : Nat → List α} (h : OwnV enc sz w a b E TE v vs f) (he : ∀ k, k < vs.length → f k = g k) : OwnV enc sz w a b E TE v vs g := ⟨h.outer, h.inner.congr he, h.far, h.top, h.tops⟩
/-- a store into the i-th row -/
theorem OwnV.upd (h : OwnV enc sz w a b E TE v vs f) {i : Nat} {L' : List α} (hi : vs[i]? = some u) (hg : w.grownBy w' u.ownBlock) (hu : Own enc sz w' a E u L') : OwnV enc sz w' a b E TE v vs (fun j => if j = i then L' else f j) :=
  ⟨h.outer.grown_ hg (apart_symm (h.far i u hi)), h.inner.upd hi hg hu, h.far, h.top, h.tops⟩
/-- some of the rows, in their order -/
theorem InV.sub (h : InV enc sz w a E vs f) {js : List Nat} (hlt : ∀ j ∈ js, j < vs.length) (hs : js.Pairwise (· < ·)) : InV enc sz w a E (js.map (fun j => vs.getD j (.slice none 0 0))) (fun i => f (js.getD i 0)) := fun k x hx => by
  rw [List.getElem?_map] at hx
  cases hj : js[k]? with
  | none => rw [hj] at hx; cases hx
  | some j =>
    rw [hj] at hx
    have hjl := hlt j (List.mem_of_getElem? hj)
    have hx' : vs[j]? = some x := by
      rw [List.getElem?_eq_getElem hjl, ← Option.some.inj hx]
      simp [List.getD, List.getElem?_eq_getElem hjl]
    have e : js.getD k 0 = j := by simp [List.getD, hj]
    simp only [e]
    refine ⟨(h j x hx').1, fun i u' hik hu' => ?_⟩
    rw [List.getElem?_map] at hu'
    cases hji : js[i]? with
    | none => rw [hji] at hu'; cases hu'
    | some j' =>
      rw [hji] at hu'
      have hjl' := hlt j' (List.mem_of_getElem? hji)
      have hu2 : vs[j']? = some u' := by
        rw [List.getElem?_eq_getElem hjl', ← Option.some.inj hu']
        simp [List.getD, List.getElem?_eq_getElem hjl']
      obtain ⟨h1, e1⟩ := List.getElem?_eq_some_iff.1 hj
      obtain ⟨h2, e2⟩ := List.getElem?_eq_some_iff.1 hji
      have hlt2 : j' < j := by
        have := List.pairwise_iff_getElem.1 hs i k h2 h1 hik
        rw [e1, e2] at this; exact this
      exact (h j x hx').2 j' u' hlt2 hu2
theorem totTo_congr {β : Type} {LL : List (List α)} {MM : List (List β)} (h : LL.map List.length = MM.map List.length) (k : Nat) : totTo LL k = totTo MM k := by
  unfold totTo; rw [List.map_take, List.map_take, h]
/-- something below the rows' blocks has turned -/
theorem OwnV.far_ {row : Option Nat} (h : OwnV enc sz w a b E TE v vs f) (hg : w.grownBy w' row) (hr : ∀ g, row = some g → g < a) : OwnV enc sz w' a b E TE v vs f := by
  have key : ∀ (u : Value), (∀ g, u.ownBlock = some g → a ≤ g) → u.ownBlock = none ∨ u.ownBlock ≠ row := fun u hu => by
    cases hx : u.ownBlock with
    | none => exact .inl rfl
    | some g =>
      right
      intro e
      have h1 := hu g hx
      have h2 := hr g e.symm
      omega
  exact ⟨h.outer.grown_ hg (key v fun g hx => (h.outer.lt g hx).1), h.inner.grown_ hg (fun k u hu => key u fun g hx => ((h.inner k u hu).1.lt g hx).1), h.far, h.top, h.tops⟩
/-- append of one row to a slice of slices of the call's own -/
theorem wpList_appV {P : Program} {ops : Array Oper} {rest : List Oper} {o : Oper} {a : Act} {Q : Exit → Act → World → Prop} {wr : World} (s x : Operand) (t : TypeId) (hgd : o.guard = none)
    (ho : o.op = .call { callee := .builtin .append, args := #[s, x], argTypes := #[t, t] }) (w0 : World)
    (E : TypeId) (i : TypeInfo) (z : Value) (bytes : Nat) (ht : P.underlying t = some (.slice E)) (hi : P.info? E = some i) (hz : i.zero = some z)
    (hsize : i.size = 1) (hby : i.bytes = bytes) (hzs : z.cells.size = 1)
    (v : Value) (L : List Value) (y : Value) (h1 : y.oneCell' = true)
    (hv : a.eval s = v) (hown : Own ev 1 wr w0.heap.size E v L) (hb : Below w0.heap.size w0 wr) {g : Nat} (hx : a.eval x = .slice (some ⟨g, 0, none⟩) 1 1) (hgs : g = wr.heap.size)
    (h63 : L.length + 1 ≤ maxLen) (hbytes : (L.length + 1) * bytes ≤ 140737488355328)
    (h : ∀ v' w', Own ev 1 w' w0.heap.size E v' (L ++ [y]) → Below w0.heap.size w0 w' → wr.grownBy w' v.ownBlock → (v'.ownBlock = v.ownBlock ∨ ∃ g, v'.ownBlock = some g ∧ wr.heap.size ≤ g) → wpList P ops Q rest (a.put o.dst v') w') : wpList P ops Q (o :: rest) a (wr.alloc (.cells #[y] E)) := by
  have hsz1 := hb.size
  subst hgs
  refine wpList_append_own_at (wr.alloc (.cells #[y] E)) hgd s x t ho w0.heap.size E i z 1 bytes ht hi hz hsize hby hzs (by decide) v L.length (L.flatMap ev) hv (World.ownsRow.alloc hown _) ⟨wr.heap.size, 0, none⟩ 1 1 [y] hx (by simp) (cell_one_new _ _ _) (by intro u hu; simp only [List.mem_cons, List.not_mem_nil, or_false] at hu; subst hu; exact h1) h63 hbytes (by simp; omega) ?_
  intro v' w' hown' hg _ hat
  refine h v' w' ?_ ((hb.alloc hsz1 _).grown hg (by simp; omega) (fun k hk => (hown.lt k hk).1)) (World.grownBy.trans (bel_grown (below_alloc1 wr _) _) hg) (hat.imp id fun e => ⟨_, e, by simp⟩)
  have e : (L ++ [y]).flatMap ev = L.flatMap ev ++ [y] := by simp
  have e2 : (L ++ [y]).length = L.length + 1 := by simp
  unfold Own
  rw [e, e2]
  exact hown'
end

end Go.Proofs.Ytcdpgdpabmlpdaa
