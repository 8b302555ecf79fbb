/- What the law on breaches wants beside: the laws' helpers on curves; the argument opened. -/
import Derived.Test.YtbaffjjafkpcfaaCurve2
namespace Go.Proofs.Ytbaffjjafkpcfaa
open Go.RowKit Go.ChangeShapes Go.WideShapes Go.ChangeAt
open Go.Deep (oneCellFields hone_of)

section
variable {H : Type} {enc : TypeId × Value → H} {P : Program} {w : World} {base : Nat} {spare : Nat → Bool} {held : Bool} {r : Reach} {b0 : Nat} {t : TypeId} {v : Value} {d : DataW H} {ps : List MemPlace}
/-- a slice of int64, among the data that are read -/
theorem opIn1 {e : TypeId} {fuel : Nat} {V0 : Value} {y : DataW H × List MemPlace} (ht : P.underlying t = some (.slice e)) (hC : P.cellsOf e = 1) (he : P.underlying e = some (.int .i64))
    (hf : DataW.trod enc P w base spare held fuel t [V0] = some y) : ∃ (A : Option Addr) (c : Nat) (L : List Int), V0 = .slice A L.length c ∧ L.length ≤ c ∧ c ≤ maxLen ∧ Rd e1 1 w w.heap.size A L := by
  rcases Go.Deep.open_slice1 ht hC hf with ⟨hcs, _⟩ | ⟨a, len', cap', m, n, V, D, Pl, hcs, hb, hl, hm, hmm, _, hi⟩
  · have hv' : V0 = .slice none 0 0 := by simpa using hcs
    rw [hv']
    exact ⟨none, 0, [], rfl, Nat.le_refl _, by unfold maxLen; omega, Rd.nil_⟩
  · have hv' : V0 = .slice (some a) len' cap' := by simpa using hcs
    rw [hv']
    have hle : len' ≤ m := by rw [hmm]; split <;> omega
    obtain ⟨L, hL, _, hR⟩ := typed (w := w) (enc' := e1) (sz := 1) (fun _ => True) (fun x => Nat.one_pos) (a := a) (n := len') (fun i hil => by
      obtain ⟨hc, ht'⟩ := hi i (by omega)
      obtain ⟨x, hx, _⟩ := field_int he ht'
      refine ⟨x, trivial, fun j u hu => ?_⟩
      have hj : j < 1 := by simpa using (List.getElem?_eq_some_iff.1 hu).1
      obtain rfl : j = 0 := by omega
      simp only [List.getElem?_cons_zero, Option.some.injEq] at hu
      subst hu
      rw [← hx]
      simpa using hc)
    exact ⟨some a, cap', L, by rw [hL], by omega, hm, hR⟩
theorem opCurve {f0 f1 : Field} {e : TypeId} (hs : P.underlying t = some (.struct #[f0, f1])) (hone : oneCellFields P #[f0, f1] = true) (hC : P.cellsOf t = 2) (hi0 : P.underlying f0.type = some (.slice e)) (hC1 : P.cellsOf e = 1) (he : P.underlying e = some (.int .i64)) (hi1 : P.underlying f1.type = some (.slice e))
    (hv : Value.okWide P w r b0 t v) (h : DataW.Trod enc P w base spare held t v d ps) : ∃ (A B : Option Addr) (c c' : Nat) (L M : List Int), v = .agg #[.slice A L.length c, .slice B M.length c'] ∧ L.length ≤ c ∧ c ≤ maxLen ∧ M.length ≤ c' ∧ c' ≤ maxLen ∧ Rd e1 1 w w.heap.size A L ∧ Rd e1 1 w w.heap.size B M := by
  obtain ⟨v0, v1, y0, y1, n, rfl, _, _, h0, h1⟩ := Go.Joins.open_agg2 hs hone hC hv h
  obtain ⟨A, c, L, rfl, k1, k2, k3⟩ := opIn1 hi0 hC1 he h0
  obtain ⟨B, c', M, rfl, l1, l2, l3⟩ := opIn1 hi1 hC1 he h1
  exact ⟨A, B, c, c', L, M, rfl, k1, k2, l1, l2, k3, l3⟩
end

theorem sizeInt64_c (A : Option Addr) (c n : Nat) (w : World) (_hn : n ≤ maxLen) :
    Calls Try.prog 73 #[.slice A n c] w fun e w' => e = .returned (.int .i64 n) ∧ w = w' := by
  go_enter Try.func73, Try.ntmps73
  go_wp2
  go_ret
  exact ⟨rfl, rfl⟩

theorem own_far {α : Type} {enc : α → List Value} {sz base b i : Nat} {E : TypeId} {v : Value} {L : List α} {w : World} (ho : Own enc sz w base E v L) (hb : b < base) (u : Value) : Own enc sz (w.setCell ⟨b, i, none⟩ u) base E v L :=
  ho.grown_ (grown_set (grown_refl w (some b)) i u) (.inr (Ne.symm (own_ge ho hb)))
def szC (L M : List Int) : Int := if L.length + M.length ≤ 1048576 then 1048576 - (L.length : Int) - (M.length : Int) else -1
set_option maxHeartbeats 1000000 in
theorem szCurve_c (A B : Option Addr) (c d : Nat) (L M : List Int) (w : World) (hn : L.length ≤ maxLen) (hm : M.length ≤ maxLen) :
    Calls Try.prog 31 #[.agg #[.slice A L.length c, .slice B M.length d], .int .i64 1048576] w fun e w' => e = .returned (.int .i64 (szC L M)) ∧ Below w.heap.size w w' := by
  have HM := Lib.hid hm
  clear hm
  by_cases h1 : L.length ≤ 1048576
  rotate_left
  · have Q := Lib.hid (show szR 1048576 L.length = -1 by unfold szR; rw [if_pos (by omega)])
    have HF := Lib.hid (show szC L M = -1 by unfold szC; rw [if_neg (by omega)])
    go_enter Try.func31, Try.ntmps31
    go_wp2_with fail
    refine (szInt64S_c _ _ _ _ _ hn (by omega) (by omega)).mono ?_
    rintro e w' ⟨rfl, rfl⟩
    rw [Q.out]
    go_wp2
    go_ret
    exact ⟨ret_int HF.out.symm, (by repeat (first | (with_reducible exact Below.refl _ _) | (with_reducible assumption) | (with_reducible refine Below.drew ?_) | (with_reducible refine bel_dN ?_ _) | (with_reducible refine Below.alloc ?_ ?_ _) | (with_reducible refine Below.setCell ?_ ?_ _) | (refine bel_call ?_ (by with_reducible assumption) ?_) | omega | (focus (dsimp only; omega)) | (with_reducible refine sz_al ?_) | (with_reducible refine sz_sc ?_) | (with_reducible refine sz_dr ?_) | (with_reducible refine sz_dN ?_)))⟩
  have Q := Lib.hid (show szR 1048576 L.length = 1048576 - (L.length : Int) by unfold szR; rw [if_neg (by omega)])
  by_cases h2 : L.length + M.length ≤ 1048576
  rotate_left
  · have Q2 := Lib.hid (show szR (1048576 - (L.length : Int)) M.length = -1 by unfold szR; rw [if_pos (by omega)])
    have HF := Lib.hid (show szC L M = -1 by unfold szC; rw [if_neg h2])
    go_enter Try.func31, Try.ntmps31
    go_wp2_with fail
    refine (szInt64S_c _ _ _ _ _ hn (by omega) (by omega)).mono ?_
    rintro e w' ⟨rfl, rfl⟩
    rw [Q.out]
    go_wp2_with fail
    refine (szInt64S_c _ _ _ _ _ HM.out (by omega) (by omega)).mono ?_
    rintro e w' ⟨rfl, rfl⟩
    rw [Q2.out]
    go_wp2
    go_ret
    exact ⟨ret_int HF.out.symm, (by repeat (first | (with_reducible exact Below.refl _ _) | (with_reducible assumption) | (with_reducible refine Below.drew ?_) | (with_reducible refine bel_dN ?_ _) | (with_reducible refine Below.alloc ?_ ?_ _) | (with_reducible refine Below.setCell ?_ ?_ _) | (refine bel_call ?_ (by with_reducible assumption) ?_) | omega | (focus (dsimp only; omega)) | (with_reducible refine sz_al ?_) | (with_reducible refine sz_sc ?_) | (with_reducible refine sz_dr ?_) | (with_reducible refine sz_dN ?_)))⟩
  have Q2 := Lib.hid (show szR (1048576 - (L.length : Int)) M.length = 1048576 - (L.length : Int) - (M.length : Int) by unfold szR; rw [if_neg (by omega)])
  have HF := Lib.hid (show szC L M = 1048576 - (L.length : Int) - (M.length : Int) by unfold szC; rw [if_pos h2])
  go_enter Try.func31, Try.ntmps31
  go_wp2_with fail
  refine (szInt64S_c _ _ _ _ _ hn (by omega) (by omega)).mono ?_
  rintro e w' ⟨rfl, rfl⟩
  rw [Q.out]
  go_wp2_with fail
  refine (szInt64S_c _ _ _ _ _ HM.out (by omega) (by omega)).mono ?_
  rintro e w' ⟨rfl, rfl⟩
  rw [Q2.out]
  go_wp2
  go_ret
  exact ⟨ret_int HF.out.symm, (by repeat (first | (with_reducible exact Below.refl _ _) | (with_reducible assumption) | (with_reducible refine Below.drew ?_) | (with_reducible refine bel_dN ?_ _) | (with_reducible refine Below.alloc ?_ ?_ _) | (with_reducible refine Below.setCell ?_ ?_ _) | (refine bel_call ?_ (by with_reducible assumption) ?_) | omega | (focus (dsimp only; omega)) | (with_reducible refine sz_al ?_) | (with_reducible refine sz_sc ?_) | (with_reducible refine sz_dr ?_) | (with_reducible refine sz_dN ?_)))⟩
set_option maxHeartbeats 2000000 in
theorem toCurve_c (A B : Option Addr) (c d : Nat) (L M : List Int) (w : World) (hR : Rd e1 1 w w.heap.size A L) (hS : Rd e1 1 w w.heap.size B M) (hn : L.length ≤ 1048576) (hm : M.length ≤ 1048576) :
    Calls Try.prog 33 #[.agg #[.slice A L.length c, .slice B M.length d]] w fun e w' => ∃ A' c' B' d', e = .returned (.agg #[.slice A' L.length c', .slice B' M.length d']) ∧ Rd e1 1 w' w'.heap.size A' L ∧ Rd e1 1 w' w'.heap.size B' M ∧ Below w.heap.size w w' := by
  obtain ⟨wz, hwz⟩ : ∃ wz, wz = ((w.alloc (.cells #[.slice A L.length c, .slice B M.length d] 53)).alloc (.cells #[.slice none 0 0, .slice none 0 0] 58)).alloc (.cells #[.slice none 0 0, .slice none 0 0] 58) := ⟨_, rfl⟩
  have k1 := below_alloc1 w (.cells #[.slice A L.length c, .slice B M.length d] 53)
  have k2 := below_alloc1 (w.alloc (.cells #[.slice A L.length c, .slice B M.length d] 53)) (.cells #[.slice none 0 0, .slice none 0 0] 58)
  have k3 := below_alloc1 ((w.alloc (.cells #[.slice A L.length c, .slice B M.length d] 53)).alloc (.cells #[.slice none 0 0, .slice none 0 0] 58)) (.cells #[.slice none 0 0, .slice none 0 0] 58)
  have e1' : (w.alloc (.cells #[.slice A L.length c, .slice B M.length d] 53)).heap.size = w.heap.size + 1 := by simp
  have e2' : ((w.alloc (.cells #[.slice A L.length c, .slice B M.length d] 53)).alloc (.cells #[.slice none 0 0, .slice none 0 0] 58)).heap.size = w.heap.size + 1 + 1 := by simp
  have hsz : wz.heap.size = w.heap.size + 3 := by rw [hwz]; simp
  have HX : Blk wz w.heap.size 53 [.slice A L.length c, .slice B M.length d] := by rw [hwz]; exact ((Blk.new w 53 #[.slice A L.length c, .slice B M.length d]).call k2).call k3
  have HY : Blk wz (w.heap.size + 1) 58 [.slice none 0 0, .slice none 0 0] := by rw [hwz, ← e1']; exact (Blk.new _ 58 #[.slice none 0 0, .slice none 0 0]).call k3
  have HZ : Blk wz (w.heap.size + 1 + 1) 58 [.slice none 0 0, .slice none 0 0] := by rw [hwz, ← e2']; exact Blk.new _ 58 #[.slice none 0 0, .slice none 0 0]
  have HBZ := Lib.hid (show Below w.heap.size w wz by rw [hwz]; exact bel_call (bel_call k1 k2 k1.size) k3 (by rw [e2']; omega))
  have HR := Lib.hid ((hR.below HBZ.out).more HBZ.out.size)
  have HS := Lib.hid hS
  have HWZ := Lib.hid hwz
  clear k1 k2 k3 e1' e2' hR hS hwz
  go_enter Try.func33, Try.ntmps33
  go_wp2_with fail
  rw [← HWZ.out]
  refine (toInt64S_c _ _ L _ HR.out hn).mono ?_
  rintro e w1 ⟨v, rfl, ho, hb⟩
  obtain ⟨A', c', rfl⟩ := own_form ho
  have HX1 := HX.call hb
  have HY1 := HY.call hb
  have HZ1 := HZ.call hb
  have hs1 := hb.size
  have hB1 := bel_call HBZ.out hb HBZ.out.size
  have HX2 := HX1.far (p := ⟨w.heap.size + 1 + 1, 0, none⟩) (by dsimp only; omega) (.slice A' L.length c')
  have HY2 := HY1.far (p := ⟨w.heap.size + 1 + 1, 0, none⟩) (by dsimp only; omega) (.slice A' L.length c')
  have HZ2 : Blk (w1.setCell ⟨w.heap.size + 1 + 1, 0, none⟩ (.slice A' L.length c')) (w.heap.size + 1 + 1) 58 [.slice A' L.length c', .slice none 0 0] := HZ1.set_ 0 (.slice A' L.length c')
  have ho2 := own_far (b := w.heap.size + 1 + 1) (i := 0) ho (by omega) (.slice A' L.length c')
  have hB2 : Below w.heap.size w (w1.setCell ⟨w.heap.size + 1 + 1, 0, none⟩ (.slice A' L.length c')) := hB1.setCell (by dsimp only; omega) _
  have hs2 : wz.heap.size ≤ (w1.setCell ⟨w.heap.size + 1 + 1, 0, none⟩ (.slice A' L.length c')).heap.size := by simpa [World.setCell] using hs1
  have q0 : w1.cell? ⟨w.heap.size + 1 + 1, 0, none⟩ = some (.slice none 0 0) := HZ1.cell 0
  have f0 := HZ1.frozen
  have x1' : w1.cell? ⟨w.heap.size, 1, none⟩ = some (.slice B M.length d) := HX1.cell 1
  have x1 : (w1.setCell ⟨w.heap.size + 1 + 1, 0, none⟩ (.slice A' L.length c')).cell? ⟨w.heap.size, 1, none⟩ = some (.slice B M.length d) := HX2.cell 1
  obtain ⟨w2, hw2⟩ : ∃ w2, w2 = w1.setCell ⟨w.heap.size + 1 + 1, 0, none⟩ (.slice A' L.length c') := ⟨_, rfl⟩
  rw [← hw2] at HX2 HY2 HZ2 ho2 hB2 hs2
  have HW2 := Lib.hid hw2
  have HS2 := Lib.hid ((HS.out.below hB2).more hB2.size)
  clear hw2 ho HX HY HZ HX1 HY1 HZ1 hs1 hB1 hb HX2
  go_wp2_with fail
  rw [← HW2.out]
  refine (toInt64S_c _ _ M _ HS2.out hm).mono ?_
  rintro e w3 ⟨v, rfl, ho3, hb3⟩
  obtain ⟨B', d', rfl⟩ := own_form ho3
  have HY3 := HY2.call hb3
  have HZ3 := HZ2.call hb3
  have ho4 := ho2.call hb3
  have hB3 := bel_call hB2 hb3 hB2.size
  have y0 : w3.cell? ⟨w.heap.size + 1, 0, none⟩ = some (.slice none 0 0) := HY3.cell 0
  have y1 : w3.cell? ⟨w.heap.size + 1, 1, none⟩ = some (.slice none 0 0) := HY3.cell 1
  have z0 : w3.cell? ⟨w.heap.size + 1 + 1, 0, none⟩ = some (.slice A' L.length c') := HZ3.cell 0
  have z1 : w3.cell? ⟨w.heap.size + 1 + 1, 1, none⟩ = some (.slice none 0 0) := HZ3.cell 1
  have fy := HY3.frozen
  have fz := HZ3.frozen
  have hb2s := hB2.size
  have h5 := own_far (b := w.heap.size + 1) (i := 1) (own_far (b := w.heap.size + 1) (i := 0) (own_far (b := w.heap.size + 1 + 1) (i := 1) ho4 (by omega) (.slice B' M.length d')) (by omega) (.slice A' L.length c')) (by omega) (.slice B' M.length d')
  have h6 := own_far (b := w.heap.size + 1) (i := 1) (own_far (b := w.heap.size + 1) (i := 0) (own_far (b := w.heap.size + 1 + 1) (i := 1) ho3 (by omega) (.slice B' M.length d')) (by omega) (.slice A' L.length c')) (by omega) (.slice B' M.length d')
  have hB5 : Below w.heap.size w (((w3.setCell ⟨w.heap.size + 1 + 1, 1, none⟩ (.slice B' M.length d')).setCell ⟨w.heap.size + 1, 0, none⟩ (.slice A' L.length c')).setCell ⟨w.heap.size + 1, 1, none⟩ (.slice B' M.length d')) := ((hB3.setCell (by dsimp only; omega) _).setCell (by dsimp only; omega) _).setCell (by dsimp only; omega) _
  have HY4 : Blk ((w3.setCell ⟨w.heap.size + 1 + 1, 1, none⟩ (.slice B' M.length d')).setCell ⟨w.heap.size + 1, 0, none⟩ (.slice A' L.length c')) (w.heap.size + 1) 58 [.slice A' L.length c', .slice none 0 0] := (HY3.far (p := ⟨w.heap.size + 1 + 1, 1, none⟩) (by dsimp only; omega) _).set_ 0 (.slice A' L.length c')
  have HY5 : Blk (((w3.setCell ⟨w.heap.size + 1 + 1, 1, none⟩ (.slice B' M.length d')).setCell ⟨w.heap.size + 1, 0, none⟩ (.slice A' L.length c')).setCell ⟨w.heap.size + 1, 1, none⟩ (.slice B' M.length d')) (w.heap.size + 1) 58 [.slice A' L.length c', .slice B' M.length d'] := HY4.set_ 1 (.slice B' M.length d')
  have p0 : ((w3.setCell ⟨w.heap.size + 1 + 1, 1, none⟩ (.slice B' M.length d')).setCell ⟨w.heap.size + 1, 0, none⟩ (.slice A' L.length c')).cell? ⟨w.heap.size + 1, 0, none⟩ = some (.slice A' L.length c') := HY4.cell 0
  have p1 : (((w3.setCell ⟨w.heap.size + 1 + 1, 1, none⟩ (.slice B' M.length d')).setCell ⟨w.heap.size + 1, 0, none⟩ (.slice A' L.length c')).setCell ⟨w.heap.size + 1, 1, none⟩ (.slice B' M.length d')).cell? ⟨w.heap.size + 1, 1, none⟩ = some (.slice B' M.length d') := HY5.cell 1
  have H5 := Lib.hid h5
  have H6 := Lib.hid h6
  have HB5 := Lib.hid hB5
  clear HY4 HY5 HY2 HZ2 HY3 HZ3 ho2 ho4 ho3 h5 h6 hB5 hB3 hB2 hb3
  go_wp2
  (try simp only [Exit.inBlock, Exit.then])
  refine bodyPost_ret (by simp [results, Try.results33, go_sem, p0, p1]; try rfl) rfl ?_
  exact ⟨_, _, _, _, rfl, Own.rd_ len_x1 H5.out rfl, Own.rd_ len_x1 H6.out rfl, HB5.out⟩
set_option maxHeartbeats 2000000 in
theorem eqCurve_c (A B A' B' : Option Addr) (c d c' d' : Nat) (L M : List Int) (w : World) (hR : Rd e1 1 w w.heap.size A L) (hS : Rd e1 1 w w.heap.size B M) (hR' : Rd e1 1 w w.heap.size A' L) (hS' : Rd e1 1 w w.heap.size B' M) (hn : L.length ≤ maxLen) (hm : M.length ≤ maxLen) :
    Calls Try.prog 36 #[.agg #[.slice A L.length c, .slice B M.length d], .agg #[.slice A' L.length c', .slice B' M.length d']] w fun e w' => e = .returned (.bool true) ∧ Below w.heap.size w w' := by
  obtain ⟨wz, hwz⟩ : ∃ wz, wz = (w.alloc (.cells #[.slice A L.length c, .slice B M.length d] 58)).alloc (.cells #[.slice A' L.length c', .slice B' M.length d'] 58) := ⟨_, rfl⟩
  have k1 := below_alloc1 w (.cells #[.slice A L.length c, .slice B M.length d] 58)
  have k2 := below_alloc1 (w.alloc (.cells #[.slice A L.length c, .slice B M.length d] 58)) (.cells #[.slice A' L.length c', .slice B' M.length d'] 58)
  have e1' : (w.alloc (.cells #[.slice A L.length c, .slice B M.length d] 58)).heap.size = w.heap.size + 1 := by simp
  have HX : Blk wz w.heap.size 58 [.slice A L.length c, .slice B M.length d] := by rw [hwz]; exact (Blk.new w 58 #[.slice A L.length c, .slice B M.length d]).call k2
  have HY : Blk wz (w.heap.size + 1) 58 [.slice A' L.length c', .slice B' M.length d'] := by rw [hwz, ← e1']; exact Blk.new _ 58 #[.slice A' L.length c', .slice B' M.length d']
  have HBZ := Lib.hid (show Below w.heap.size w wz by rw [hwz]; exact bel_call k1 k2 k1.size)
  have HR := Lib.hid ((hR.below HBZ.out).more HBZ.out.size)
  have HS := Lib.hid ((hS.below HBZ.out).more HBZ.out.size)
  have HR' := Lib.hid ((hR'.below HBZ.out).more HBZ.out.size)
  have HS' := Lib.hid ((hS'.below HBZ.out).more HBZ.out.size)
  have HWZ := Lib.hid hwz
  clear k1 k2 e1' hR hS hR' hS' hwz
  go_enter Try.func36, Try.ntmps36
  go_wp2_with fail
  rw [← HWZ.out]
  refine (eqInt64S_c _ _ _ _ L L _ HR.out HR'.out hn hn).mono ?_
  rintro e w1 ⟨rfl, hb⟩
  rw [decide_eq_true (rfl : L = L)]
  have x1 : w1.cell? ⟨w.heap.size, 1, none⟩ = some (.slice B M.length d) := (HX.call hb).cell 1
  have y1 : w1.cell? ⟨w.heap.size + 1, 1, none⟩ = some (.slice B' M.length d') := (HY.call hb).cell 1
  have HB1 := Lib.hid (bel_call HBZ.out hb HBZ.out.size)
  have HS1 := Lib.hid (HS.out.call hb)
  have HS2 := Lib.hid (HS'.out.call hb)
  clear hb HX HY
  go_wp2_with fail
  refine (eqInt64S_c _ _ _ _ M M _ HS1.out HS2.out hm hm).mono ?_
  rintro e w2 ⟨rfl, hb⟩
  rw [decide_eq_true (rfl : M = M)]
  have HB2 := Lib.hid (bel_call HB1.out hb HB1.out.size)
  clear hb
  go_wp2
  go_ret
  exact ⟨rfl, HB2.out⟩

end Go.Proofs.Ytbaffjjafkpcfaa
