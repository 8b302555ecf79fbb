/- Appends of one element, a law for each type of elements; the indices for which something is so. -/
import Derived.Test.YtcdpgdpabmlpdaaSlice
namespace Go.Proofs.Ytcdpgdpabmlpdaa
open Go.RowKit

/-- append of one element to a row of the call's own -/
theorem appInt64 {ops : Array Oper} {rest : List Oper} {o : Oper} {a : Act} {Q : Exit → Act → World → Prop} {w0 wr : World} (s x : Operand) (hgd : o.guard = none) (ho : o.op = .call { callee := .builtin .append, args := #[s, x], argTypes := #[24, 24] })
    (v : Value) (L : List (Int)) (y : Int) (hv : a.eval s = v) (hown : Own e1 1 wr w0.heap.size 2 v L) (hb : Below w0.heap.size w0 wr) {g : Nat} (hx : a.eval x = .slice (some ⟨g, 0, none⟩) 1 1) (hgs : g = wr.heap.size) (hl : L.length + 1 ≤ 1000000000)
    (h : ∀ v' w', Own e1 1 w' w0.heap.size 2 v' (L ++ [y]) → Below w0.heap.size w0 w' → wpList Try.prog ops Q rest (a.put o.dst v') w') : wpList Try.prog ops Q (o :: rest) a (wr.alloc (.cells (e1 y).toArray 2)) := by
  obtain ⟨i0, hi, hz0, hz1, hz2⟩ := info_parts infoInt64
  exact wpList_app s x 24 hgd ho w0 2 i0 _ 1 8 Try.underlying24 hi hz0 hz1 hz2 rfl (by decide) len_Int64 (by intro y u hu; simp only [List.mem_cons, List.not_mem_nil, or_false] at hu; rcases hu with rfl <;> rfl) v L y hv hown hb hx hgs (by unfold maxLen; omega) (by omega) h
/-- append of one element to a row of the call's own, in a region that draws -/
theorem stepInt64 {ops : Array Oper} {o : Oper} {a : Act} {K : Act → World → Prop} {Q : Exit → Act → World → Prop} {X : Prop} {w0 wr : World} (s x : Operand) (hgd : o.guard = none) (ho : o.op = .call { callee := .builtin .append, args := #[s, x], argTypes := #[24, 24] })
    (v : Value) (L : List (Int)) (y : Int) (hv : a.eval s = v) (hown : Own e1 1 wr w0.heap.size 2 v L) (hb : Below w0.heap.size w0 wr) {g : Nat} (hx : a.eval x = .slice (some ⟨g, 0, none⟩) 1 1) (hgs : g = wr.heap.size) (hl : L.length + 1 ≤ 1000000000)
    (h : ∀ v' w', Own e1 1 w' w0.heap.size 2 v' (L ++ [y]) → Below w0.heap.size w0 w' → K (a.put o.dst v') w') : if Region.wanted o (yielded ops a.tmps) = true then Oper.wp Try.prog o a (wr.alloc (.cells (e1 y).toArray 2)) K Q else X := by
  obtain ⟨i0, hi, hz0, hz1, hz2⟩ := info_parts infoInt64
  exact step_app s x 24 hgd ho w0 2 i0 _ 1 8 Try.underlying24 hi hz0 hz1 hz2 rfl (by decide) len_Int64 (by intro y u hu; simp only [List.mem_cons, List.not_mem_nil, or_false] at hu; rcases hu with rfl <;> rfl) v L y hv hown hb hx hgs (by unfold maxLen; omega) (by omega) h

/-- append of a whole slice to a row of the call's own -/
theorem appSInt64 {ops : Array Oper} {rest : List Oper} {o : Oper} {a : Act} {Q : Exit → Act → World → Prop} {w0 wr : World} (s x : Operand) (hgd : o.guard = none) (ho : o.op = .call { callee := .builtin .append, args := #[s, x], argTypes := #[24, 24] })
    (v : Value) (L M : List (Int)) (hv : a.eval s = v) (hown : Own e1 1 wr w0.heap.size 2 v L) (hb : Below w0.heap.size w0 wr) {A : Option Addr} {c B : Nat} (hx : a.eval x = .slice A M.length c) (hR : Rd e1 1 wr B A M) (hpos : 0 < M.length) (hl : L.length + M.length ≤ 1000000000)
    (h : ∀ v' w', Own e1 1 w' w0.heap.size 2 v' (L ++ M) → Below w0.heap.size w0 w' → wpList Try.prog ops Q rest (a.put o.dst v') w') : wpList Try.prog ops Q (o :: rest) a wr := by
  obtain ⟨i0, hi, hz0, hz1, hz2⟩ := info_parts infoInt64
  exact wpList_appS s x 24 hgd ho w0 2 i0 _ 1 8 Try.underlying24 hi hz0 hz1 hz2 rfl (by decide) len_Int64 (by intro y u hu; simp only [List.mem_cons, List.not_mem_nil, or_false] at hu; rcases hu with rfl <;> rfl) v L M hv hown hb hx hR hpos (by unfold maxLen; omega) (by omega) h
/-- append of one element to a row of the call's own, and what it says of other rows -/
theorem app2Int64 {ops : Array Oper} {rest : List Oper} {o : Oper} {a : Act} {Q : Exit → Act → World → Prop} {w0 wr : World} (s x : Operand) (hgd : o.guard = none) (ho : o.op = .call { callee := .builtin .append, args := #[s, x], argTypes := #[24, 24] })
    (v : Value) (L : List (Int)) (y : Int) (hv : a.eval s = v) (hown : Own e1 1 wr w0.heap.size 2 v L) (hb : Below w0.heap.size w0 wr) {g : Nat} (hx : a.eval x = .slice (some ⟨g, 0, none⟩) 1 1) (hgs : g = wr.heap.size) (hl : L.length + 1 ≤ 1000000000)
    (h : ∀ v' w', Own e1 1 w' w0.heap.size 2 v' (L ++ [y]) → Below w0.heap.size w0 w' → wr.grownBy w' v.ownBlock → (v'.ownBlock = v.ownBlock ∨ ∃ g, v'.ownBlock = some g ∧ wr.heap.size ≤ g) → wpList Try.prog ops Q rest (a.put o.dst v') w') : wpList Try.prog ops Q (o :: rest) a (wr.alloc (.cells (e1 y).toArray 2)) := by
  obtain ⟨i0, hi, hz0, hz1, hz2⟩ := info_parts infoInt64
  exact wpList_app2 s x 24 hgd ho w0 2 i0 _ 1 8 Try.underlying24 hi hz0 hz1 hz2 rfl (by decide) len_Int64 (by intro y u hu; simp only [List.mem_cons, List.not_mem_nil, or_false] at hu; rcases hu with rfl <;> rfl) v L y hv hown hb hx hgs (by unfold maxLen; omega) (by omega) h

theorem step2Int64 {ops : Array Oper} {o : Oper} {a : Act} {K : Act → World → Prop} {Q : Exit → Act → World → Prop} {X : Prop} {w0 wr : World} (s x : Operand) (hgd : o.guard = none) (ho : o.op = .call { callee := .builtin .append, args := #[s, x], argTypes := #[24, 24] })
    (v : Value) (L : List (Int)) (y : Int) (hv : a.eval s = v) (hown : Own e1 1 wr w0.heap.size 2 v L) (hb : Below w0.heap.size w0 wr) {g : Nat} (hx : a.eval x = .slice (some ⟨g, 0, none⟩) 1 1) (hgs : g = wr.heap.size) (hl : L.length + 1 ≤ 1000000000)
    (h : ∀ v' w', Own e1 1 w' w0.heap.size 2 v' (L ++ [y]) → Below w0.heap.size w0 w' → wr.grownBy w' v.ownBlock → (v'.ownBlock = v.ownBlock ∨ ∃ g, v'.ownBlock = some g ∧ wr.heap.size ≤ g) → K (a.put o.dst v') w') : if Region.wanted o (yielded ops a.tmps) = true then Oper.wp Try.prog o a (wr.alloc (.cells (e1 y).toArray 2)) K Q else X := by
  obtain ⟨i0, hi, hz0, hz1, hz2⟩ := info_parts infoInt64
  exact step_app2 s x 24 hgd ho w0 2 i0 _ 1 8 Try.underlying24 hi hz0 hz1 hz2 rfl (by decide) len_Int64 (by intro y u hu; simp only [List.mem_cons, List.not_mem_nil, or_false] at hu; rcases hu with rfl <;> rfl) v L y hv hown hb hx hgs (by unfold maxLen; omega) (by omega) h

set_option maxHeartbeats 1000000 in
theorem indicesWhere_BestHours (p0 : Value) (n : Nat) (p : Nat → Bool) (w : World) (hn : n ≤ 1000000)
    (hf : ∀ (k : Nat) (W : World), k < n → Below w.heap.size w W → Calls Try.prog 21 #[.int .i64 k, p0] W fun e W' => e = .returned (.bool (p k)) ∧ Below W.heap.size W W') :
    Calls Try.prog 19 #[.int .i64 n, .func (.func 21) #[] #[p0]] w fun e w' => ∃ v, e = .returned v ∧ Own e1 1 w' w.heap.size 2 v (whr p n) ∧ Below w.heap.size w w' := by
  have HF := Lib.hid hf
  clear hf
  go_enter Try.func19, Try.ntmps19
  go_wp2
  go_loopw [5, 6] (fun v i wr => ∃ k : Nat, k ≤ n ∧ i = .int .i64 k ∧ Own e1 1 wr w.heap.size 2 v (whr p k) ∧ Below w.heap.size w wr) (fun _ i _ => n - (intOf i).toNat)
  case atStart => exact ⟨0, by omega, rfl, own_empty w 2, (by repeat (first | (with_reducible exact Below.refl _ _) | (with_reducible assumption) | (with_reducible refine Below.drew ?_) | (with_reducible refine bel_dN ?_ _) | (with_reducible refine Below.alloc ?_ ?_ _) | (with_reducible refine Below.setCell ?_ ?_ _) | (refine bel_call ?_ (by with_reducible assumption) ?_) | omega | (focus (dsimp only; omega)) | (with_reducible refine sz_al ?_) | (with_reducible refine sz_sc ?_) | (with_reducible refine sz_dr ?_) | (with_reducible refine sz_dN ?_)))⟩
  case round =>
    obtain ⟨k, hk, rfl, hown, hb⟩ := hrel
    have hsz := hb.size
    have hl := whr_len p k
    by_cases hlt : k < n
    · have HO := Lib.hid hown
      clear hown
      go_wp2_with fail
      refine (HF.out k _ hlt hb).mono ?_
      rintro e w1 ⟨rfl, hb1⟩
      have HO1 := Lib.hid (HO.out.call hb1)
      have HB1 := Lib.hid (bel_call hb hb1 hsz)
      cases hp : p k
      · have HQ := Lib.hid (whr_no hp)
        go_wp2
        go_roundw
        case rel => exact ⟨k + 1, by omega, by go_num, by rw [HQ.out]; exact HO1.out, HB1.out⟩
        case measure => simp [intOf]; omega
      · have HQ := Lib.hid (whr_yes hp)
        go_wp2_with (at_builtin; refine appInt64 _ _ rfl rfl _ (whr p k) (k : Int) rfl HO1.out HB1.out rfl (by simp) (by omega) ?_; intro v2 w2 hown2 hb2)
        go_roundw
        case rel => exact ⟨k + 1, by omega, by go_num, by rw [HQ.out]; exact hown2, hb2⟩
        case measure => simp [intOf]; omega
    · obtain rfl : k = n := by omega
      go_wp2
      go_ret
      exact ⟨_, rfl, hown, hb⟩

end Go.Proofs.Ytcdpgdpabmlpdaa
