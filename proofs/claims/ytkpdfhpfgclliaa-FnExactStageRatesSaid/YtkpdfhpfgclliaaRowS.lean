/- Arguments that are slices of slices of structs, opened as lists of lists. -/
import Derived.Test.YtkpdfhpfgclliaaRow
import Derived.Test.YtkpdfhpfgclliaaSS
namespace Go.Proofs.Ytkpdfhpfgclliaa
open Go.RowKit Go.ChangeShapes Go.WideShapes Go.ChangeAt
open Go.Deep (oneCellFields hone_of)

section
variable {H : Type} {enc : TypeId × Value → H} {P : Program} {w : World} {base : Nat} {spare : Nat → Bool} {held : Bool} {r : Reach} {b0 : Nat} {t : TypeId} {v : Value} {d : DataW H} {ps : List MemPlace}
/-- a slice of structs of one-cell fields, among the data that are read -/
theorem opIn {α : Type} {enc' : α → List Value} {e : TypeId} {fs : Array Field} {fuel : Nat} {V0 : Value} {y : DataW H × List MemPlace} (ht : P.underlying t = some (.slice e)) (he : P.underlying e = some (.struct fs)) (hone : oneCellFields P fs = true) (hC : P.cellsOf e = fs.size)
    (hpos : 0 < fs.size) (hlen : ∀ x, (enc' x).length = fs.size)
    (hmk : ∀ (V : Nat → Value) (n : Nat), (∀ (j : Nat) (f : Field), fs[j]? = some f → ∃ y : DataW H × List MemPlace, DataW.trod enc P w base spare held n f.type [V j] = some y) → ∃ x : α, ∀ j u, (enc' x)[j]? = some u → u = V j)
    (hf : DataW.trod enc P w base spare held fuel t [V0] = some y) : ∃ (A : Option Addr) (c : Nat) (L : List α), V0 = .slice A L.length c ∧ L.length ≤ c ∧ c ≤ maxLen ∧ Rd enc' fs.size w w.heap.size A L := by
  rcases Go.Deep.open_slice ht hf with ⟨hcs, _⟩ | ⟨a, len', cap', m, n, D, Pl, hcs, hb, hl, hm, hmm, _, hi⟩
  · have hv' : V0 = .slice none 0 0 := by simpa using hcs
    rw [hv']
    exact ⟨none, 0, [], rfl, Nat.le_refl _, by unfold maxLen; omega, Rd.nil_⟩
  · have hv' : V0 = .slice (some a) len' cap' := by simpa using hcs
    rw [hv']
    have hle : len' ≤ m := by rw [hmm]; split <;> omega
    obtain ⟨L, hL, _, hR⟩ := typed (w := w) (enc' := enc') (sz := fs.size) (fun _ => True) (fun x => by rw [hlen]; exact hpos) (a := a) (n := len') (fun i hil => by
      obtain ⟨cs', hc, ht'⟩ := hi i (by omega)
      rw [hC] at hc
      obtain ⟨ys, n', hn', hy, hlen', hyl, hf'⟩ := DataW.trod_struct he ht'
      obtain ⟨_, hcl, hat⟩ := World.cells?_some hc
      obtain ⟨x, hx2⟩ := hmk (fun j => cs'.getD j undef) n' (fun j f hj => by
        obtain ⟨ho, hk⟩ := hone_of hone j f hj
        have hjl : j < fs.size := (Array.getElem?_eq_some_iff.1 hj).1
        have h1 := hf' j f hj
        rw [ho, hk] at h1
        have h2 : (cs'.drop j).take 1 = [cs'.getD j undef] := by
          have hjc : j < cs'.length := by omega
          have h3 : cs'.getD j undef = cs'[j] := by simp [List.getD, hjc]
          rw [h3, List.drop_eq_getElem_cons hjc]
          rfl
        rw [h2] at h1
        exact ⟨ys[j]'(by omega), h1.trans (List.getElem?_eq_getElem (by omega))⟩)
      refine ⟨x, trivial, fun j u hu => ?_⟩
      have hj : j < fs.size := by
        have := (List.getElem?_eq_some_iff.1 hu).1
        rw [hlen] at this; exact this
      have h3 := hat j hj
      rw [Go.Deep.add_add] at h3
      rw [h3, hx2 j u hu]
      have hjc : j < cs'.length := by omega
      simp [List.getD, hjc])
    exact ⟨some a, cap', L, by rw [hL], by omega, hm, hR⟩
/-- an argument that is a slice of slices of structs of one-cell fields -/
theorem opSS {α : Type} {enc' : α → List Value} {e e2 : TypeId} {fs : Array Field} (ht : P.underlying t = some (.slice e)) (hC1 : P.cellsOf e = 1) (hte : P.underlying e = some (.slice e2)) (he : P.underlying e2 = some (.struct fs)) (hone : oneCellFields P fs = true) (hC : P.cellsOf e2 = fs.size)
    (hpos : 0 < fs.size) (hlen : ∀ x, (enc' x).length = fs.size)
    (hmk : ∀ (V : Nat → Value) (n : Nat), (∀ (j : Nat) (f : Field), fs[j]? = some f → ∃ y : DataW H × List MemPlace, DataW.trod enc P w base spare held n f.type [V j] = some y) → ∃ x : α, ∀ j u, (enc' x)[j]? = some u → u = V j)
    (hv : Value.okWide P w r b0 t v) (h : DataW.Trod enc P w base spare held t v d ps) : ∃ (A : Option Addr) (c : Nat) (LL : List (List α)), v = .slice A LL.length c ∧ LL.length ≤ c ∧ c ≤ maxLen ∧ RdS enc' fs.size w w.heap.size A LL := by
  obtain ⟨A, len, cap, rfl⟩ := okWide_slice ht hv
  obtain ⟨fuel, hf⟩ := h
  rcases Go.Deep.open_slice1 ht hC1 hf with ⟨hcs, _⟩ | ⟨a, len', cap', m, n, V, D, Pl, hcs, hb, hl, hm, hmm, _, hi⟩
  · have hv' : (Value.slice A len cap) = .slice none 0 0 := by simpa [Value.cells] using hcs
    rw [hv']
    exact ⟨none, 0, [], rfl, Nat.le_refl _, by unfold maxLen; omega, RdS.nil_⟩
  · have hv' : (Value.slice A len cap) = .slice (some a) len' cap' := by simpa [Value.cells] using hcs
    rw [hv']
    have hle : len' ≤ m := by rw [hmm]; split <;> omega
    rcases Nat.eq_zero_or_pos len' with h0 | h0
    · subst h0
      exact ⟨some a, cap', [], rfl, by omega, hm, RdS.nil_⟩
    obtain ⟨f, hfn⟩ := Go.Deep.choose_lt (α := Option Addr × Nat × List α) (n := len') (p := fun i x => w.cell? (a.add i) = some (.slice x.1 x.2.2.length x.2.1) ∧ x.2.2.length ≤ x.2.1 ∧ x.2.1 ≤ maxLen ∧ Rd enc' fs.size w w.heap.size x.1 x.2.2) (fun i hil => by
      obtain ⟨hc, ht'⟩ := hi i (by omega)
      obtain ⟨A', c', L, e', h1, h2, h3⟩ := opIn hte he hone hC hpos hlen hmk ht'
      exact ⟨(A', c', L), by rw [hc, e'], h1, h2, h3⟩)
    have hcell0 := (hfn 0 h0).1
    simp only [Addr.add, if_true] at hcell0
    have hblk := World.block_lt_of_cell? w a hcell0
    have hspot : a = ⟨a.block, a.off, none⟩ := by
      rcases a with ⟨b, o, s⟩
      cases s with
      | none => rfl
      | some q =>
        exfalso
        simp only [World.cell?] at hcell0
        split at hcell0 <;> simp at hcell0
    refine ⟨some a, cap', (List.range len').map (fun i => (f i).2.2), by simp, by simpa using hl, hm, fun _ => ?_⟩
    refine ⟨a.block, a.off, by rw [← hspot], hblk, fun k hk => ?_⟩
    have hk' : k < len' := by simpa using hk
    obtain ⟨h1, h2, h3, h4⟩ := hfn k hk'
    rw [hspot, add_lit] at h1
    refine ⟨(f k).1, (f k).2.1, ?_, ?_, ?_, h3⟩
    · simpa using h1
    · simpa using h4
    · simpa using h2
end


end Go.Proofs.Ytkpdfhpfgclliaa
