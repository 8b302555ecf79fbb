/- Appends of one element, a law for each type of elements; the indices for which something is so. -/
import Derived.Test.YtcdpgdpabmlpdaaDoorSlice
namespace Go.Proofs.YtcdpgdpabmlpdaaDoor
open Go.RowKit

/-- append of one element to a row of the call's own -/
theorem appInt64 {ops : Array Oper} {rest : List Oper} {o : Oper} {a : Act} {Q : Exit → Act → World → Prop} {w0 wr : World} (s x : Operand) (hgd : o.guard = none) (ho : o.op = .call { callee := .builtin .append, args := #[s, x], argTypes := #[80, 80] })
    (v : Value) (L : List (Int)) (y : Int) (hv : a.eval s = v) (hown : Own e1 1 wr w0.heap.size 2 v L) (hb : Below w0.heap.size w0 wr) {g : Nat} (hx : a.eval x = .slice (some ⟨g, 0, none⟩) 1 1) (hgs : g = wr.heap.size) (hl : L.length + 1 ≤ 1000000000)
    (h : ∀ v' w', Own e1 1 w' w0.heap.size 2 v' (L ++ [y]) → Below w0.heap.size w0 w' → wpList Tryd.prog ops Q rest (a.put o.dst v') w') : wpList Tryd.prog ops Q (o :: rest) a (wr.alloc (.cells (e1 y).toArray 2)) := by
  obtain ⟨i0, hi, hz0, hz1, hz2⟩ := info_parts infoInt64
  exact wpList_app s x 80 hgd ho w0 2 i0 _ 1 8 Tryd.underlying80 hi hz0 hz1 hz2 rfl (by decide) len_Int64 (by intro y u hu; simp only [List.mem_cons, List.not_mem_nil, or_false] at hu; rcases hu with rfl <;> rfl) v L y hv hown hb hx hgs (by unfold maxLen; omega) (by omega) h
/-- append of one element to a row of the call's own, in a region that draws -/
theorem stepInt64 {ops : Array Oper} {o : Oper} {a : Act} {K : Act → World → Prop} {Q : Exit → Act → World → Prop} {X : Prop} {w0 wr : World} (s x : Operand) (hgd : o.guard = none) (ho : o.op = .call { callee := .builtin .append, args := #[s, x], argTypes := #[80, 80] })
    (v : Value) (L : List (Int)) (y : Int) (hv : a.eval s = v) (hown : Own e1 1 wr w0.heap.size 2 v L) (hb : Below w0.heap.size w0 wr) {g : Nat} (hx : a.eval x = .slice (some ⟨g, 0, none⟩) 1 1) (hgs : g = wr.heap.size) (hl : L.length + 1 ≤ 1000000000)
    (h : ∀ v' w', Own e1 1 w' w0.heap.size 2 v' (L ++ [y]) → Below w0.heap.size w0 w' → K (a.put o.dst v') w') : if Region.wanted o (yielded ops a.tmps) = true then Oper.wp Tryd.prog o a (wr.alloc (.cells (e1 y).toArray 2)) K Q else X := by
  obtain ⟨i0, hi, hz0, hz1, hz2⟩ := info_parts infoInt64
  exact step_app s x 80 hgd ho w0 2 i0 _ 1 8 Tryd.underlying80 hi hz0 hz1 hz2 rfl (by decide) len_Int64 (by intro y u hu; simp only [List.mem_cons, List.not_mem_nil, or_false] at hu; rcases hu with rfl <;> rfl) v L y hv hown hb hx hgs (by unfold maxLen; omega) (by omega) h

/-- append of a whole slice to a row of the call's own -/
theorem appSInt64 {ops : Array Oper} {rest : List Oper} {o : Oper} {a : Act} {Q : Exit → Act → World → Prop} {w0 wr : World} (s x : Operand) (hgd : o.guard = none) (ho : o.op = .call { callee := .builtin .append, args := #[s, x], argTypes := #[80, 80] })
    (v : Value) (L M : List (Int)) (hv : a.eval s = v) (hown : Own e1 1 wr w0.heap.size 2 v L) (hb : Below w0.heap.size w0 wr) {A : Option Addr} {c B : Nat} (hx : a.eval x = .slice A M.length c) (hR : Rd e1 1 wr B A M) (hpos : 0 < M.length) (hl : L.length + M.length ≤ 1000000000)
    (h : ∀ v' w', Own e1 1 w' w0.heap.size 2 v' (L ++ M) → Below w0.heap.size w0 w' → wpList Tryd.prog ops Q rest (a.put o.dst v') w') : wpList Tryd.prog ops Q (o :: rest) a wr := by
  obtain ⟨i0, hi, hz0, hz1, hz2⟩ := info_parts infoInt64
  exact wpList_appS s x 80 hgd ho w0 2 i0 _ 1 8 Tryd.underlying80 hi hz0 hz1 hz2 rfl (by decide) len_Int64 (by intro y u hu; simp only [List.mem_cons, List.not_mem_nil, or_false] at hu; rcases hu with rfl <;> rfl) v L M hv hown hb hx hR hpos (by unfold maxLen; omega) (by omega) h
/-- append of one element to a row of the call's own, and what it says of other rows -/
theorem app2Int64 {ops : Array Oper} {rest : List Oper} {o : Oper} {a : Act} {Q : Exit → Act → World → Prop} {w0 wr : World} (s x : Operand) (hgd : o.guard = none) (ho : o.op = .call { callee := .builtin .append, args := #[s, x], argTypes := #[80, 80] })
    (v : Value) (L : List (Int)) (y : Int) (hv : a.eval s = v) (hown : Own e1 1 wr w0.heap.size 2 v L) (hb : Below w0.heap.size w0 wr) {g : Nat} (hx : a.eval x = .slice (some ⟨g, 0, none⟩) 1 1) (hgs : g = wr.heap.size) (hl : L.length + 1 ≤ 1000000000)
    (h : ∀ v' w', Own e1 1 w' w0.heap.size 2 v' (L ++ [y]) → Below w0.heap.size w0 w' → wr.grownBy w' v.ownBlock → (v'.ownBlock = v.ownBlock ∨ ∃ g, v'.ownBlock = some g ∧ wr.heap.size ≤ g) → wpList Tryd.prog ops Q rest (a.put o.dst v') w') : wpList Tryd.prog ops Q (o :: rest) a (wr.alloc (.cells (e1 y).toArray 2)) := by
  obtain ⟨i0, hi, hz0, hz1, hz2⟩ := info_parts infoInt64
  exact wpList_app2 s x 80 hgd ho w0 2 i0 _ 1 8 Tryd.underlying80 hi hz0 hz1 hz2 rfl (by decide) len_Int64 (by intro y u hu; simp only [List.mem_cons, List.not_mem_nil, or_false] at hu; rcases hu with rfl <;> rfl) v L y hv hown hb hx hgs (by unfold maxLen; omega) (by omega) h

theorem step2Int64 {ops : Array Oper} {o : Oper} {a : Act} {K : Act → World → Prop} {Q : Exit → Act → World → Prop} {X : Prop} {w0 wr : World} (s x : Operand) (hgd : o.guard = none) (ho : o.op = .call { callee := .builtin .append, args := #[s, x], argTypes := #[80, 80] })
    (v : Value) (L : List (Int)) (y : Int) (hv : a.eval s = v) (hown : Own e1 1 wr w0.heap.size 2 v L) (hb : Below w0.heap.size w0 wr) {g : Nat} (hx : a.eval x = .slice (some ⟨g, 0, none⟩) 1 1) (hgs : g = wr.heap.size) (hl : L.length + 1 ≤ 1000000000)
    (h : ∀ v' w', Own e1 1 w' w0.heap.size 2 v' (L ++ [y]) → Below w0.heap.size w0 w' → wr.grownBy w' v.ownBlock → (v'.ownBlock = v.ownBlock ∨ ∃ g, v'.ownBlock = some g ∧ wr.heap.size ≤ g) → K (a.put o.dst v') w') : if Region.wanted o (yielded ops a.tmps) = true then Oper.wp Tryd.prog o a (wr.alloc (.cells (e1 y).toArray 2)) K Q else X := by
  obtain ⟨i0, hi, hz0, hz1, hz2⟩ := info_parts infoInt64
  exact step_app2 s x 80 hgd ho w0 2 i0 _ 1 8 Tryd.underlying80 hi hz0 hz1 hz2 rfl (by decide) len_Int64 (by intro y u hu; simp only [List.mem_cons, List.not_mem_nil, or_false] at hu; rcases hu with rfl <;> rfl) v L y hv hown hb hx hgs (by unfold maxLen; omega) (by omega) h

/-- append of one element to a row of the call's own -/
theorem appSection {ops : Array Oper} {rest : List Oper} {o : Oper} {a : Act} {Q : Exit → Act → World → Prop} {w0 wr : World} (s x : Operand) (hgd : o.guard = none) (ho : o.op = .call { callee := .builtin .append, args := #[s, x], argTypes := #[39, 39] })
    (v : Value) (L : List (Int × Int)) (y : Int × Int) (hv : a.eval s = v) (hown : Own e2 2 wr w0.heap.size 66 v L) (hb : Below w0.heap.size w0 wr) {g : Nat} (hx : a.eval x = .slice (some ⟨g, 0, none⟩) 1 1) (hgs : g = wr.heap.size) (hl : L.length + 1 ≤ 1000000000)
    (h : ∀ v' w', Own e2 2 w' w0.heap.size 66 v' (L ++ [y]) → Below w0.heap.size w0 w' → wpList Tryd.prog ops Q rest (a.put o.dst v') w') : wpList Tryd.prog ops Q (o :: rest) a (wr.alloc (.cells (e2 y).toArray 66)) := by
  obtain ⟨i0, hi, hz0, hz1, hz2⟩ := info_parts infoSection
  exact wpList_app s x 39 hgd ho w0 66 i0 _ 2 16 Tryd.underlying39 hi hz0 hz1 hz2 rfl (by decide) len_Section (by intro y u hu; simp only [List.mem_cons, List.not_mem_nil, or_false] at hu; rcases hu with rfl | rfl <;> rfl) v L y hv hown hb hx hgs (by unfold maxLen; omega) (by omega) h
/-- append of one element to a row of the call's own, in a region that draws -/
theorem stepSection {ops : Array Oper} {o : Oper} {a : Act} {K : Act → World → Prop} {Q : Exit → Act → World → Prop} {X : Prop} {w0 wr : World} (s x : Operand) (hgd : o.guard = none) (ho : o.op = .call { callee := .builtin .append, args := #[s, x], argTypes := #[39, 39] })
    (v : Value) (L : List (Int × Int)) (y : Int × Int) (hv : a.eval s = v) (hown : Own e2 2 wr w0.heap.size 66 v L) (hb : Below w0.heap.size w0 wr) {g : Nat} (hx : a.eval x = .slice (some ⟨g, 0, none⟩) 1 1) (hgs : g = wr.heap.size) (hl : L.length + 1 ≤ 1000000000)
    (h : ∀ v' w', Own e2 2 w' w0.heap.size 66 v' (L ++ [y]) → Below w0.heap.size w0 w' → K (a.put o.dst v') w') : if Region.wanted o (yielded ops a.tmps) = true then Oper.wp Tryd.prog o a (wr.alloc (.cells (e2 y).toArray 66)) K Q else X := by
  obtain ⟨i0, hi, hz0, hz1, hz2⟩ := info_parts infoSection
  exact step_app s x 39 hgd ho w0 66 i0 _ 2 16 Tryd.underlying39 hi hz0 hz1 hz2 rfl (by decide) len_Section (by intro y u hu; simp only [List.mem_cons, List.not_mem_nil, or_false] at hu; rcases hu with rfl | rfl <;> rfl) v L y hv hown hb hx hgs (by unfold maxLen; omega) (by omega) h

/-- append of a whole slice to a row of the call's own -/
theorem appSSection {ops : Array Oper} {rest : List Oper} {o : Oper} {a : Act} {Q : Exit → Act → World → Prop} {w0 wr : World} (s x : Operand) (hgd : o.guard = none) (ho : o.op = .call { callee := .builtin .append, args := #[s, x], argTypes := #[39, 39] })
    (v : Value) (L M : List (Int × Int)) (hv : a.eval s = v) (hown : Own e2 2 wr w0.heap.size 66 v L) (hb : Below w0.heap.size w0 wr) {A : Option Addr} {c B : Nat} (hx : a.eval x = .slice A M.length c) (hR : Rd e2 2 wr B A M) (hpos : 0 < M.length) (hl : L.length + M.length ≤ 1000000000)
    (h : ∀ v' w', Own e2 2 w' w0.heap.size 66 v' (L ++ M) → Below w0.heap.size w0 w' → wpList Tryd.prog ops Q rest (a.put o.dst v') w') : wpList Tryd.prog ops Q (o :: rest) a wr := by
  obtain ⟨i0, hi, hz0, hz1, hz2⟩ := info_parts infoSection
  exact wpList_appS s x 39 hgd ho w0 66 i0 _ 2 16 Tryd.underlying39 hi hz0 hz1 hz2 rfl (by decide) len_Section (by intro y u hu; simp only [List.mem_cons, List.not_mem_nil, or_false] at hu; rcases hu with rfl | rfl <;> rfl) v L M hv hown hb hx hR hpos (by unfold maxLen; omega) (by omega) h
/-- append of one element to a row of the call's own, and what it says of other rows -/
theorem app2Section {ops : Array Oper} {rest : List Oper} {o : Oper} {a : Act} {Q : Exit → Act → World → Prop} {w0 wr : World} (s x : Operand) (hgd : o.guard = none) (ho : o.op = .call { callee := .builtin .append, args := #[s, x], argTypes := #[39, 39] })
    (v : Value) (L : List (Int × Int)) (y : Int × Int) (hv : a.eval s = v) (hown : Own e2 2 wr w0.heap.size 66 v L) (hb : Below w0.heap.size w0 wr) {g : Nat} (hx : a.eval x = .slice (some ⟨g, 0, none⟩) 1 1) (hgs : g = wr.heap.size) (hl : L.length + 1 ≤ 1000000000)
    (h : ∀ v' w', Own e2 2 w' w0.heap.size 66 v' (L ++ [y]) → Below w0.heap.size w0 w' → wr.grownBy w' v.ownBlock → (v'.ownBlock = v.ownBlock ∨ ∃ g, v'.ownBlock = some g ∧ wr.heap.size ≤ g) → wpList Tryd.prog ops Q rest (a.put o.dst v') w') : wpList Tryd.prog ops Q (o :: rest) a (wr.alloc (.cells (e2 y).toArray 66)) := by
  obtain ⟨i0, hi, hz0, hz1, hz2⟩ := info_parts infoSection
  exact wpList_app2 s x 39 hgd ho w0 66 i0 _ 2 16 Tryd.underlying39 hi hz0 hz1 hz2 rfl (by decide) len_Section (by intro y u hu; simp only [List.mem_cons, List.not_mem_nil, or_false] at hu; rcases hu with rfl | rfl <;> rfl) v L y hv hown hb hx hgs (by unfold maxLen; omega) (by omega) h

theorem step2Section {ops : Array Oper} {o : Oper} {a : Act} {K : Act → World → Prop} {Q : Exit → Act → World → Prop} {X : Prop} {w0 wr : World} (s x : Operand) (hgd : o.guard = none) (ho : o.op = .call { callee := .builtin .append, args := #[s, x], argTypes := #[39, 39] })
    (v : Value) (L : List (Int × Int)) (y : Int × Int) (hv : a.eval s = v) (hown : Own e2 2 wr w0.heap.size 66 v L) (hb : Below w0.heap.size w0 wr) {g : Nat} (hx : a.eval x = .slice (some ⟨g, 0, none⟩) 1 1) (hgs : g = wr.heap.size) (hl : L.length + 1 ≤ 1000000000)
    (h : ∀ v' w', Own e2 2 w' w0.heap.size 66 v' (L ++ [y]) → Below w0.heap.size w0 w' → wr.grownBy w' v.ownBlock → (v'.ownBlock = v.ownBlock ∨ ∃ g, v'.ownBlock = some g ∧ wr.heap.size ≤ g) → K (a.put o.dst v') w') : if Region.wanted o (yielded ops a.tmps) = true then Oper.wp Tryd.prog o a (wr.alloc (.cells (e2 y).toArray 66)) K Q else X := by
  obtain ⟨i0, hi, hz0, hz1, hz2⟩ := info_parts infoSection
  exact step_app2 s x 39 hgd ho w0 66 i0 _ 2 16 Tryd.underlying39 hi hz0 hz1 hz2 rfl (by decide) len_Section (by intro y u hu; simp only [List.mem_cons, List.not_mem_nil, or_false] at hu; rcases hu with rfl | rfl <;> rfl) v L y hv hown hb hx hgs (by unfold maxLen; omega) (by omega) h

/-- append of one element to a row of the call's own -/
theorem appTide {ops : Array Oper} {rest : List Oper} {o : Oper} {a : Act} {Q : Exit → Act → World → Prop} {w0 wr : World} (s x : Operand) (hgd : o.guard = none) (ho : o.op = .call { callee := .builtin .append, args := #[s, x], argTypes := #[46, 46] })
    (v : Value) (L : List (Int × Int)) (y : Int × Int) (hv : a.eval s = v) (hown : Own e2 2 wr w0.heap.size 72 v L) (hb : Below w0.heap.size w0 wr) {g : Nat} (hx : a.eval x = .slice (some ⟨g, 0, none⟩) 1 1) (hgs : g = wr.heap.size) (hl : L.length + 1 ≤ 1000000000)
    (h : ∀ v' w', Own e2 2 w' w0.heap.size 72 v' (L ++ [y]) → Below w0.heap.size w0 w' → wpList Tryd.prog ops Q rest (a.put o.dst v') w') : wpList Tryd.prog ops Q (o :: rest) a (wr.alloc (.cells (e2 y).toArray 72)) := by
  obtain ⟨i0, hi, hz0, hz1, hz2⟩ := info_parts infoTide
  exact wpList_app s x 46 hgd ho w0 72 i0 _ 2 16 Tryd.underlying46 hi hz0 hz1 hz2 rfl (by decide) len_Tide (by intro y u hu; simp only [List.mem_cons, List.not_mem_nil, or_false] at hu; rcases hu with rfl | rfl <;> rfl) v L y hv hown hb hx hgs (by unfold maxLen; omega) (by omega) h
/-- append of one element to a row of the call's own, in a region that draws -/
theorem stepTide {ops : Array Oper} {o : Oper} {a : Act} {K : Act → World → Prop} {Q : Exit → Act → World → Prop} {X : Prop} {w0 wr : World} (s x : Operand) (hgd : o.guard = none) (ho : o.op = .call { callee := .builtin .append, args := #[s, x], argTypes := #[46, 46] })
    (v : Value) (L : List (Int × Int)) (y : Int × Int) (hv : a.eval s = v) (hown : Own e2 2 wr w0.heap.size 72 v L) (hb : Below w0.heap.size w0 wr) {g : Nat} (hx : a.eval x = .slice (some ⟨g, 0, none⟩) 1 1) (hgs : g = wr.heap.size) (hl : L.length + 1 ≤ 1000000000)
    (h : ∀ v' w', Own e2 2 w' w0.heap.size 72 v' (L ++ [y]) → Below w0.heap.size w0 w' → K (a.put o.dst v') w') : if Region.wanted o (yielded ops a.tmps) = true then Oper.wp Tryd.prog o a (wr.alloc (.cells (e2 y).toArray 72)) K Q else X := by
  obtain ⟨i0, hi, hz0, hz1, hz2⟩ := info_parts infoTide
  exact step_app s x 46 hgd ho w0 72 i0 _ 2 16 Tryd.underlying46 hi hz0 hz1 hz2 rfl (by decide) len_Tide (by intro y u hu; simp only [List.mem_cons, List.not_mem_nil, or_false] at hu; rcases hu with rfl | rfl <;> rfl) v L y hv hown hb hx hgs (by unfold maxLen; omega) (by omega) h

/-- append of a whole slice to a row of the call's own -/
theorem appSTide {ops : Array Oper} {rest : List Oper} {o : Oper} {a : Act} {Q : Exit → Act → World → Prop} {w0 wr : World} (s x : Operand) (hgd : o.guard = none) (ho : o.op = .call { callee := .builtin .append, args := #[s, x], argTypes := #[46, 46] })
    (v : Value) (L M : List (Int × Int)) (hv : a.eval s = v) (hown : Own e2 2 wr w0.heap.size 72 v L) (hb : Below w0.heap.size w0 wr) {A : Option Addr} {c B : Nat} (hx : a.eval x = .slice A M.length c) (hR : Rd e2 2 wr B A M) (hpos : 0 < M.length) (hl : L.length + M.length ≤ 1000000000)
    (h : ∀ v' w', Own e2 2 w' w0.heap.size 72 v' (L ++ M) → Below w0.heap.size w0 w' → wpList Tryd.prog ops Q rest (a.put o.dst v') w') : wpList Tryd.prog ops Q (o :: rest) a wr := by
  obtain ⟨i0, hi, hz0, hz1, hz2⟩ := info_parts infoTide
  exact wpList_appS s x 46 hgd ho w0 72 i0 _ 2 16 Tryd.underlying46 hi hz0 hz1 hz2 rfl (by decide) len_Tide (by intro y u hu; simp only [List.mem_cons, List.not_mem_nil, or_false] at hu; rcases hu with rfl | rfl <;> rfl) v L M hv hown hb hx hR hpos (by unfold maxLen; omega) (by omega) h
/-- append of one element to a row of the call's own, and what it says of other rows -/
theorem app2Tide {ops : Array Oper} {rest : List Oper} {o : Oper} {a : Act} {Q : Exit → Act → World → Prop} {w0 wr : World} (s x : Operand) (hgd : o.guard = none) (ho : o.op = .call { callee := .builtin .append, args := #[s, x], argTypes := #[46, 46] })
    (v : Value) (L : List (Int × Int)) (y : Int × Int) (hv : a.eval s = v) (hown : Own e2 2 wr w0.heap.size 72 v L) (hb : Below w0.heap.size w0 wr) {g : Nat} (hx : a.eval x = .slice (some ⟨g, 0, none⟩) 1 1) (hgs : g = wr.heap.size) (hl : L.length + 1 ≤ 1000000000)
    (h : ∀ v' w', Own e2 2 w' w0.heap.size 72 v' (L ++ [y]) → Below w0.heap.size w0 w' → wr.grownBy w' v.ownBlock → (v'.ownBlock = v.ownBlock ∨ ∃ g, v'.ownBlock = some g ∧ wr.heap.size ≤ g) → wpList Tryd.prog ops Q rest (a.put o.dst v') w') : wpList Tryd.prog ops Q (o :: rest) a (wr.alloc (.cells (e2 y).toArray 72)) := by
  obtain ⟨i0, hi, hz0, hz1, hz2⟩ := info_parts infoTide
  exact wpList_app2 s x 46 hgd ho w0 72 i0 _ 2 16 Tryd.underlying46 hi hz0 hz1 hz2 rfl (by decide) len_Tide (by intro y u hu; simp only [List.mem_cons, List.not_mem_nil, or_false] at hu; rcases hu with rfl | rfl <;> rfl) v L y hv hown hb hx hgs (by unfold maxLen; omega) (by omega) h

theorem step2Tide {ops : Array Oper} {o : Oper} {a : Act} {K : Act → World → Prop} {Q : Exit → Act → World → Prop} {X : Prop} {w0 wr : World} (s x : Operand) (hgd : o.guard = none) (ho : o.op = .call { callee := .builtin .append, args := #[s, x], argTypes := #[46, 46] })
    (v : Value) (L : List (Int × Int)) (y : Int × Int) (hv : a.eval s = v) (hown : Own e2 2 wr w0.heap.size 72 v L) (hb : Below w0.heap.size w0 wr) {g : Nat} (hx : a.eval x = .slice (some ⟨g, 0, none⟩) 1 1) (hgs : g = wr.heap.size) (hl : L.length + 1 ≤ 1000000000)
    (h : ∀ v' w', Own e2 2 w' w0.heap.size 72 v' (L ++ [y]) → Below w0.heap.size w0 w' → wr.grownBy w' v.ownBlock → (v'.ownBlock = v.ownBlock ∨ ∃ g, v'.ownBlock = some g ∧ wr.heap.size ≤ g) → K (a.put o.dst v') w') : if Region.wanted o (yielded ops a.tmps) = true then Oper.wp Tryd.prog o a (wr.alloc (.cells (e2 y).toArray 72)) K Q else X := by
  obtain ⟨i0, hi, hz0, hz1, hz2⟩ := info_parts infoTide
  exact step_app2 s x 46 hgd ho w0 72 i0 _ 2 16 Tryd.underlying46 hi hz0 hz1 hz2 rfl (by decide) len_Tide (by intro y u hu; simp only [List.mem_cons, List.not_mem_nil, or_false] at hu; rcases hu with rfl | rfl <;> rfl) v L y hv hown hb hx hgs (by unfold maxLen; omega) (by omega) h

end Go.Proofs.YtcdpgdpabmlpdaaDoor
