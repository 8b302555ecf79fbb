/- The closures of BestHours and its sorts over rows of the call's own. -/
import Derived.Test.YtcdpgdpabmlpdaaBest
import Derived.Deep.QuietTactic
namespace Go.Proofs.Ytcdpgdpabmlpdaa
open Go.RowKit Go.Sort Go.Lib Go.Shelf

theorem map_e1 (L : List Int) : L.map (Value.int .i64) = L.flatMap e1 := by
  induction L with
  | nil => rfl
  | cons x L ih => rw [List.map_cons, List.flatMap_cons, ih]; rfl
theorem own_block {w : World} {base c n : Nat} {E : TypeId} {A : Option Addr} {L : List Int} (ho : Own e1 1 w base E (.slice A n c) L) (h0 : 0 < L.length) : ∃ (g : Nat) (cur : Array Value), A = some ⟨g, 0, none⟩ ∧ n = L.length ∧ base ≤ g ∧ g < w.heap.size ∧ w.heap[g]? = some (.cells cur E (0, 0)) ∧ L.length ≤ c ∧ c ≤ maxLen ∧ cur.size = c * 1 ∧ cur.toList.take L.length = L.map (Value.int .i64) := by
  obtain ⟨g, rest, hA, hn, hbase, h1, h2, h3, hb⟩ := Own.blk ho h0
  refine ⟨g, _, hA, hn, hbase, hb.lt, hb, h1, h2, by simpa using h3, ?_⟩
  rw [map_e1]
  have hl : (L.flatMap e1).length = L.length := by rw [← map_e1, List.length_map]
  show ((L.flatMap e1 ++ rest).toArray).toList.take L.length = _
  rw [← hl]
  simp
theorem own_sorted {w w' : World} {base c g : Nat} {E : TypeId} {L M : List Int} {cur : Array Value} (hbase : base ≤ g) (hb : w.heap[g]? = some (.cells cur E (0, 0))) (h1 : L.length ≤ c) (h2 : c ≤ maxLen) (h3 : cur.size = c * 1) (hl : M.length = L.length) (hs : SW (Value.int .i64) w g 0 M.toArray w') :
    Own e1 1 w' base E (.slice (some ⟨g, 0, none⟩) L.length c) M ∧ w.grownBy w' (some g) := by
  obtain ⟨n, os, rfl⟩ := hs
  have h := ownsRow_sortedI (n := n) (os := os) (ss := L) hl hbase hb h1 h2 h3
  rw [map_e1] at h
  refine ⟨?_, grownBy_sortedI _⟩
  unfold Own
  rw [hl]; exact h
theorem putCells_map {α : Type} [Inhabited α] (enc : α → Value) (f : α → Int) (he : ∀ x, enc x = .int .i64 (f x)) (off : Nat) (d : Array α) : putCells enc off d = putCells (Value.int .i64) off (d.map f) := by
  funext c
  unfold putCells
  congr 1
  funext k x
  rw [Array.size_map]
  split
  · rename_i h
    rw [he, getElem!_pos (d.map f) (k - off) (by rw [Array.size_map]; omega), getElem!_pos d (k - off) (by omega), Array.getElem_map]
  · rfl
theorem sw_map {α : Type} [Inhabited α] {enc : α → Value} (f : α → Int) (he : ∀ x, enc x = .int .i64 (f x)) {w w' : World} {blk off : Nat} {d : Array α} (h : SW enc w blk off d w') : SW (Value.int .i64) w blk off (d.map f) w' := by
  obtain ⟨n, os, rfl⟩ := h
  refine ⟨n, os, ?_⟩
  unfold sortWorld putRow
  rw [putCells_map enc f he]

set_option maxHeartbeats 1000000 in
theorem BestHours_clo1 (A : Option Addr) (c : Nat) (F : List Int) (k b0 : Nat) (W : World) (hR : Rd e1 1 W W.heap.size A F) (_hl : F.length ≤ 200) (hk : k < F.length) (q0 : W.cell? ⟨b0, 0, none⟩ = some (.slice A F.length c)) :
    Calls Try.prog 21 #[.int .i64 k, .pointer (some ⟨b0, 0, none⟩)] W fun e W' => e = .returned (.bool (posP F k)) ∧ Below W.heap.size W W' := by
  obtain ⟨b, off, rfl, hbb, hc⟩ := hR.at1 hk
  have k0 := hc k _ (get_at hk)
  have HV := Lib.hid (show posP F k = decide (0 < F[k]) by rw [posP, getD_at (get_at hk)])
  have i2 : (k : Int) < (F.length : Int) := by omega
  have i6 : (0 : Int) ≤ (k : Int) := by omega
  have i8 : IntKind.i64.wrap (k : Int) = (k : Int) := by rw [IntWalk.i64_in _ (by omega)]
  clear hc hR
  generalize F[k] = x at *
  go_enter Try.func21, Try.ntmps21
  go_wp2
  go_ret
  exact ⟨ret_bool HV.out.symm, (by repeat (first | (with_reducible exact Below.refl _ _) | (with_reducible assumption) | (with_reducible refine Below.drew ?_) | (with_reducible refine bel_dN ?_ _) | (with_reducible refine Below.alloc ?_ ?_ _) | (with_reducible refine Below.setCell ?_ ?_ _) | (refine bel_call ?_ (by with_reducible assumption) ?_) | omega | (focus (dsimp only; omega)) | (with_reducible refine sz_al ?_) | (with_reducible refine sz_sc ?_) | (with_reducible refine sz_dr ?_) | (with_reducible refine sz_dN ?_)))⟩
set_option maxHeartbeats 2000000 in
theorem BestHours_clo2 (bF oF cF blk c size X Y N : Nat) (W : World) (gi gj : Nat) (xi xj : Int) (i j : Nat) (hi : i < size) (hj : j < size) (_hs : size ≤ 1000) (hgi : gi < N) (hgj : gj < N) (_hN : N ≤ 1000)
    (qX : W.cell? ⟨X, 0, none⟩ = some (.slice (some ⟨bF, oF, none⟩) N cF)) (qY : W.cell? ⟨Y, 0, none⟩ = some (.slice (some ⟨blk, 0, none⟩) size c))
    (ci : W.cell? ⟨blk, i, none⟩ = some (.int .i64 (gi : Int))) (cj : W.cell? ⟨blk, j, none⟩ = some (.int .i64 (gj : Int)))
    (fi : W.cell? ⟨bF, oF + gi, none⟩ = some (.int .i64 xi)) (fj : W.cell? ⟨bF, oF + gj, none⟩ = some (.int .i64 xj)) :
    Calls Try.prog 23 #[.int .i64 i, .int .i64 j, .pointer (some ⟨X, 0, none⟩), .pointer (some ⟨Y, 0, none⟩)] W fun e w' => e = .returned (.bool (decide (xj < xi))) ∧ ∃ q, w' = W.drewN q := by
  have i1 : (i : Int) < (size : Int) := by omega
  have i2 : (j : Int) < (size : Int) := by omega
  have i3 : (gi : Int) < (N : Int) := by omega
  have i4 : (gj : Int) < (N : Int) := by omega
  have i5 : (0 : Int) ≤ (i : Int) := by omega
  have i6 : (0 : Int) ≤ (j : Int) := by omega
  have i7 : (0 : Int) ≤ (gi : Int) := by omega
  have i8 : (0 : Int) ≤ (gj : Int) := by omega
  have u1 : IntKind.i64.wrap (gi : Int) = (gi : Int) := by rw [IntWalk.i64_in _ (by omega)]
  have u2 : IntKind.i64.wrap (gj : Int) = (gj : Int) := by rw [IntWalk.i64_in _ (by omega)]
  go_enter Try.func23, Try.ntmps23
  go_wp2
  go_quiet (fail)
  go_wp2
  go_ret
  exact ⟨rfl, nq, rfl⟩
set_option maxHeartbeats 2000000 in
theorem BestHours_clo3 (blk c size Y : Nat) (W : World) (xi xj : Int) (i j : Nat) (hi : i < size) (hj : j < size) (_hs : size ≤ 1000)
    (qY : W.cell? ⟨Y, 0, none⟩ = some (.slice (some ⟨blk, 0, none⟩) size c))
    (ci : W.cell? ⟨blk, i, none⟩ = some (.int .i64 xi)) (cj : W.cell? ⟨blk, j, none⟩ = some (.int .i64 xj)) :
    Calls Try.prog 26 #[.int .i64 i, .int .i64 j, .pointer (some ⟨Y, 0, none⟩)] W fun e w' => e = .returned (.bool (decide (xi < xj))) ∧ ∃ q, w' = W.drewN q := by
  have i1 : (i : Int) < (size : Int) := by omega
  have i2 : (j : Int) < (size : Int) := by omega
  have i5 : (0 : Int) ≤ (i : Int) := by omega
  have i6 : (0 : Int) ≤ (j : Int) := by omega
  go_enter Try.func26, Try.ntmps26
  go_wp2
  go_quiet (fail)
  go_wp2
  go_ret
  exact ⟨rfl, nq, rfl⟩

/-- sorting the hours by their flows -/
theorem stableHours_c (F : List Int) (X Y base c : Nat) (A : Option Addr) (w : World) (ho : Own e1 1 w base 2 (.slice A (bhH F).length c) (bhH F)) (hl : F.length ≤ 200)
    (qY : w.cell? ⟨Y, 0, none⟩ = some (.slice A (bhH F).length c))
    (hFF : 0 < F.length → ∃ bF oF cF, w.cell? ⟨X, 0, none⟩ = some (.slice (some ⟨bF, oF, none⟩) F.length cF) ∧ (∀ q x, F[q]? = some x → w.cell? ⟨bF, oF + q, none⟩ = some (.int .i64 x)) ∧ bF < base) (hX : X < base) (hXs : base ≤ w.heap.size) (hY : ∀ g, A = some ⟨g, 0, none⟩ → g < Y) (hYs : Y < w.heap.size) :
    Calls Try.prog 22 #[.iface 24 (.slice A (bhH F).length c), .func (.func 23) #[] #[.pointer (some ⟨X, 0, none⟩), .pointer (some ⟨Y, 0, none⟩)]] w fun e w' =>
      e = .returned (.tuple #[]) ∧ Own e1 1 w' base 2 (.slice A (bhH F).length c) (bhM F) ∧ w.grownBy w' (Value.slice A (bhH F).length c).ownBlock := by
  by_cases h2 : 2 ≤ (bhH F).length
  · obtain ⟨g, cur, rfl, _, hbase, hgs, hb, h3, h4, h5, h6⟩ := own_block ho (by omega)
    have hFl := bhH_len F
    obtain ⟨bF, oF, cF, qX, qF, hbF⟩ := hFF (by omega)
    obtain ⟨n, hn⟩ : ∃ n, F.length = n + 1 := ⟨F.length - 1, by omega⟩
    have hz : (hf F n).toArray.size = (bhH F).length := by rw [List.size_toArray, ← hf_val hn, List.length_map]
    have hgY := hY g rfl
    have hH : Holds (encI (n := n + 1)) w g 0 (hf F n).toArray := by
      have h := holds_of_blockI hb h6
      intro j hj
      have hj2 : j < (bhH F).length := by rw [← hz]; exact hj
      have := h j (by simpa using hj2)
      rw [getElem!_pos _ j (by simpa using hj2)] at this
      rw [getElem!_pos _ j hj]
      have e : encI ((hf F n).toArray[j]) = .int .i64 ((bhH F).toArray[j]'(by simpa using hj2)) := by
        have : (bhH F).toArray[j]'(by simpa using hj2) = valI ((hf F n).toArray[j]) := by
          simp only [List.getElem_toArray, ← hf_val hn, List.getElem_map]
        rw [this]; rfl
      rw [e]; exact this
    have hless : LessReads Try.prog 23 #[.pointer (some ⟨X, 0, none⟩), .pointer (some ⟨Y, 0, none⟩)] (encI (n := n + 1)) (ltF F) g 0 (hf F n).toArray.size w := by
      intro m os dk hs i j hi hj
      have hSW : SW (encI (n := n + 1)) w g 0 dk (sortWorld encI w g 0 m dk os) := ⟨m, os, rfl⟩
      have hHd := hSW.holds hgs hH hs
      have ci := (hHd i (by omega)).1
      have cj := (hHd j (by omega)).1
      rw [Nat.zero_add] at ci cj
      have hgi := (dk[i]!).isLt
      have hgj := (dk[j]!).isLt
      have f1 : F[(dk[i]!).val]? = some (F.getD (dk[i]!).val 0) := by rw [getD_at (get_at (by omega))]; exact get_at _
      have f2 : F[(dk[j]!).val]? = some (F.getD (dk[j]!).val 0) := by rw [getD_at (get_at (by omega))]; exact get_at _
      have fi := (sw_cell hSW (p := ⟨bF, oF + (dk[i]!).val, none⟩) (by show bF < w.heap.size; omega) (by show bF ≠ g; omega)).trans (qF _ _ f1)
      have fj := (sw_cell hSW (p := ⟨bF, oF + (dk[j]!).val, none⟩) (by show bF < w.heap.size; omega) (by show bF ≠ g; omega)).trans (qF _ _ f2)
      exact BestHours_clo2 bF oF cF g c (bhH F).length X Y F.length _ (dk[i]!).val (dk[j]!).val _ _ i j (by omega) (by omega) (by omega) (by omega) (by omega) (by omega)
        ((sw_cell hSW (by show X < w.heap.size; omega) (by show X ≠ g; omega)).trans qX) ((sw_cell hSW (by show Y < w.heap.size; omega) (by show Y ≠ g; omega)).trans qY) ci cj fi fj
    have h := sortStable_c (α := Fin (n + 1)) encI (fun _ => rfl) (ltF (n := n + 1) F) valI (ltF_swo F) 23 #[.pointer (some ⟨X, 0, none⟩), .pointer (some ⟨Y, 0, none⟩)] (enters_of Try.func23 (by kernel_rfl) rfl) g c (hf F n).toArray (by rw [hz]; exact h2) (by rw [hz]; omega) w hless hH hgs (hf_asc hn)
    rw [hz] at h
    refine h.mono ?_
    rintro e w' ⟨he, c', z1, z2, z3, z4⟩
    rw [← hz] at z1 z2 z3
    have hM := sorted_bhM hn z1 z2 z3
    have hs := sw_map (enc := encI (n := n + 1)) valI (fun _ => rfl) z4
    have e2 : c'.map valI = (bhM F).toArray := by rw [← hM, ← Array.toList_map]
    rw [e2] at hs
    obtain ⟨o1, o2⟩ := own_sorted hbase hb h3 h4 h5 (bhM_len F) hs
    exact ⟨he, o1, o2⟩
  · have e : bhM F = bhH F := by
      unfold bhM
      match h : bhH F, h2 with
      | [], _ => simp
      | [x], _ => simp
      | _ :: _ :: _, h2 => exact absurd (by simp) h2
    refine (sortStable_tiny A (bhH F).length c (by omega) _ _ _ w).mono ?_
    rintro e' w' ⟨he, hb⟩
    exact ⟨he, by rw [e]; exact ho.call hb, ⟨hb.os, hb.tape, hb.output, hb.size, fun k hk _ => hb.block k hk⟩⟩
/-- sorting the chosen hours -/
theorem sliceHours_c (L : List Int) (Y base c : Nat) (A : Option Addr) (w : World) (ho : Own e1 1 w base 2 (.slice A L.length c) L) (hl : L.length ≤ 200)
    (qY : w.cell? ⟨Y, 0, none⟩ = some (.slice A L.length c)) (hY : Y < base) (hYs : base ≤ w.heap.size) :
    Calls Try.prog 25 #[.iface 24 (.slice A L.length c), .func (.func 26) #[] #[.pointer (some ⟨Y, 0, none⟩)]] w fun e w' =>
      e = .returned (.tuple #[]) ∧ Own e1 1 w' base 2 (.slice A L.length c) (L.mergeSort leI) ∧ w.grownBy w' (Value.slice A L.length c).ownBlock := by
  by_cases h2 : 2 ≤ L.length
  · obtain ⟨g, cur, rfl, _, hbase, hgs, hb, h3, h4, h5, h6⟩ := own_block ho (by omega)
    have hz : L.toArray.size = L.length := by simp
    have hH : Holds (Value.int .i64) w g 0 L.toArray := holds_of_blockI hb h6
    have hless : LessReads Try.prog 26 #[.pointer (some ⟨Y, 0, none⟩)] (Value.int .i64) ltInt g 0 L.toArray.size w := by
      intro m os dk hs i j hi hj
      have hSW : SW (Value.int .i64) w g 0 dk (sortWorld (Value.int .i64) w g 0 m dk os) := ⟨m, os, rfl⟩
      have hHd := hSW.holds hgs hH hs
      have ci := (hHd i (by omega)).1
      have cj := (hHd j (by omega)).1
      rw [Nat.zero_add] at ci cj
      exact BestHours_clo3 g c L.length Y _ _ _ i j (by omega) (by omega) (by omega) ((sw_cell hSW (by show Y < w.heap.size; omega) (by show Y ≠ g; omega)).trans qY) ci cj
    have h := sortSlice_c (Value.int .i64) (fun _ => rfl) ltInt swo_ltInt 26 #[.pointer (some ⟨Y, 0, none⟩)] (enters_of Try.func26 (by kernel_rfl) rfl) g c L.toArray (by rw [hz]; exact h2) (by rw [hz]; omega) w hless hH hgs
    rw [hz] at h
    refine h.mono ?_
    rintro e w' ⟨he, c', z1, z2, z3⟩
    rw [← hz] at z1 z2
    have hu := sorted_unique_holds swo_ltInt (fun x y p q => by simp only [ltInt, decide_eq_false_iff_not] at p q; omega) L.toArray c' z1 z2
    have hM : c'.toList = L.mergeSort leI := by
      rw [hu]
      have : (fun x y => !ltInt y x) = leI := by
        funext x y
        simp only [ltInt, leI]
        by_cases hxy : x ≤ y
        · rw [decide_eq_true hxy, decide_eq_false (by omega)]; rfl
        · rw [decide_eq_false hxy, decide_eq_true (by omega)]; rfl
      rw [this]
    have e2 : c' = (L.mergeSort leI).toArray := by rw [← hM]
    rw [e2] at z3
    obtain ⟨o1, o2⟩ := own_sorted hbase hb h3 h4 h5 (List.length_mergeSort _) z3
    exact ⟨he, o1, o2⟩
  · have e : L.mergeSort leI = L := by
      match L, h2 with
      | [], _ => simp
      | [x], _ => simp
      | _ :: _ :: _, h2 => exact absurd (by simp) h2
    refine (sortSlice_tiny A L.length c (by omega) _ _ _ w).mono ?_
    rintro e' w' ⟨he, hb⟩
    exact ⟨he, by rw [e]; exact ho.call hb, ⟨hb.os, hb.tape, hb.output, hb.size, fun k hk _ => hb.block k hk⟩⟩

end Go.Proofs.Ytcdpgdpabmlpdaa
