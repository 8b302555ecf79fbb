/- From a walk of a law to the given row: the arguments opened as typed values, and the row's last step. The walk says: the call returns true and nothing that was there has turned. -/
import Derived.Test.YtcdpgdpabmlpdaaDoorBase
import Derived.Test.YtcdpgdpabmlpdaaDoorRows
import Derived.ProofKit
import Derived.Lib.SmallJoins
namespace Go.Proofs.YtcdpgdpabmlpdaaDoor
open Go.RowKit Go.ChangeShapes Go.WideShapes Go.ChangeAt
open Go.Deep (oneCellFields hone_of)

theorem Tryd.own : ownKnob Tryd.prog.godebug = none := by kernel_rfl
theorem Tryd.laidOut : laidOutB Tryd.prog = true := by kernel_rfl

section
variable {H : Type} {enc : TypeId × Value → H} {P : Program}

theorem stayAll (hl : laidOutB P = true) {W W' : World} (hb : Below W.heap.size W W') {sp : Nat → Bool} : ∀ (ts : List TypeId) (vs : List Value) (ds : List (DataW H)) (ps : List MemPlace),
    (∀ t ∈ ts, P.readableRec t = true ∧ t < P.types.size) → DataW.TrodAll enc P W 0 (fun _ => true) true ts vs ds ps → (∀ x ∈ ps, x.block < W.heap.size) → (∀ x ∈ ps, sp x.block = true) → DataW.TrodAll enc P W' 0 sp true ts vs ds ps
  | [], [], [], _, _, h, _, _ => h
  | t :: ts, v :: vs, d :: ds, _, hr, h, hlt, hsp => by
    obtain ⟨p, q, h1, h2, rfl⟩ := h
    refine ⟨p, q, WideElems.Trod_stays hl (hr t (by simp)).1 (hr t (by simp)).2 h1 (fun x hx => hb.same (hlt x (by simp [hx]))) (fun x hx => hsp x (by simp [hx])), ?_, rfl⟩
    exact stayAll hl hb ts vs ds q (fun t ht => hr t (by simp [ht])) h2 (fun x hx => hlt x (by simp [hx])) (fun x hx => hsp x (by simp [hx]))
  | [], _ :: _, _, _, _, h, _, _ => by cases h
  | [], [], _ :: _, _, _, h, _, _ => by cases h
  | _ :: _, [], _, _, _, h, _, _ => by cases h
  | _ :: _, _ :: _, [], _, _, h, _, _ => by cases h

/-- the row's last step, for a law that returns true and leaves its arguments alone -/
theorem law_post {f : Func} {s : ChangeSpec} {W W' : World} {args : Array Value} {ds : List (DataW H)} {before p : List MemPlace} {tb : TypeId}
    (hW : DataW.Whole enc P f.params.toList s.vars false W args.toList ds [] before) (hA : DataW.TrodAll enc P W 0 (fun _ => true) true f.params.toList args.toList ds p) (hsv : s.vars = [])
    (hfn : s.fn H (ds ++ []) = { results := [.lit (.bool true)], args := ds }) (hrt : f.resultTypes = #[tb]) (htb : P.underlying tb = some .bool)
    (hl : laidOutB P = true) (hr : ∀ t ∈ f.params.toList, P.readableRec t = true ∧ t < P.types.size) (hb : Below W.heap.size W W') (hp : before = p) :
    s.post enc P f false true false false W args (.bool true) W' := by
  subst hp
  have hlt : ∀ x ∈ before, x.block < W.heap.size := fun x hx => hW.lt x hx
  refine ⟨ds, [], before, [], before, [], hW, ?_, ?_, ?_, World.keptBut_mono (fun x hx => ⟨hx, .inr (.inl hx)⟩) (hb.frame (· ∈ before)), fun h => by cases h⟩
  · rw [hfn, hrt]
    exact trodAll_mk1 (shut_bool htb true)
  · rw [hfn]
    exact stayAll hl hb _ _ _ _ hr hA hlt (fun x hx => by simpa using hlt x hx)
  · rw [hfn, hsv]
    rfl

/-! ### The arguments opened -/
variable {w : World} {base : Nat} {spare : Nat → Bool} {held : Bool} {r : Reach} {b0 : Nat} {t : TypeId} {v : Value} {d : DataW H} {ps : List MemPlace}

theorem wf_i64 {n : Int} (h : (Lit.int .i64 n).wf = true) : -9223372036854775808 ≤ n ∧ n ≤ 9223372036854775807 := by
  have := Go.bounds_i64 h
  exact this

/-- an integer that fits -/
def Fit (n : Int) : Prop := -9223372036854775808 ≤ n ∧ n ≤ 9223372036854775807

def Fit2 (x : Int × Int) : Prop := Fit x.1 ∧ Fit x.2
def Fit3 (x : Int × Int × Int) : Prop := Fit x.1 ∧ Fit x.2.1 ∧ Fit x.2.2
def Fitg (x : Bool × Int × Int) : Prop := Fit x.2.1 ∧ Fit x.2.2
def Fit4 (x : Int × Int × Int × Int) : Prop := Fit x.1 ∧ Fit x.2.1 ∧ Fit x.2.2.1 ∧ Fit x.2.2.2

theorem field_int {n : Nat} {k : IntKind} {v : Value} {y : DataW H × List MemPlace} (hu : P.underlying t = some (.int k)) (h : DataW.trod enc P w base spare held n t [v] = some y) : ∃ x : Int, v = .int k x ∧ (Lit.int k x).wf = true := by
  obtain ⟨x, hx, _, hw⟩ := DataW.trod_int hu h
  simp only [List.cons.injEq, and_true] at hx
  exact ⟨x, hx, hw⟩
theorem field_bool {n : Nat} {v : Value} {y : DataW H × List MemPlace} (hu : P.underlying t = some .bool) (h : DataW.trod enc P w base spare held n t [v] = some y) : ∃ x : Bool, v = .bool x := by
  obtain ⟨x, hx, _⟩ := DataW.trod_bool hu h
  simp only [List.cons.injEq, and_true] at hx
  exact ⟨x, hx⟩

theorem op2 {f0 f1 : Field} (hs : P.underlying t = some (.struct #[f0, f1])) (hone : oneCellFields P #[f0, f1] = true) (hC : P.cellsOf t = 2) (hi0 : P.underlying f0.type = some (.int .i64)) (hi1 : P.underlying f1.type = some (.int .i64))
    (hv : Value.okWide P w r b0 t v) (h : DataW.Trod enc P w base spare held t v d ps) : ∃ x y : Int, v = .agg #[.int .i64 x, .int .i64 y] ∧ Fit x ∧ Fit y := by
  obtain ⟨v0, v1, y0, y1, n, rfl, _, _, h0, h1⟩ := Go.Joins.open_agg2 hs hone hC hv h
  obtain ⟨x0, rfl, k0⟩ := field_int hi0 h0
  obtain ⟨x1, rfl, k1⟩ := field_int hi1 h1
  exact ⟨x0, x1, rfl, wf_i64 k0, wf_i64 k1⟩
theorem op3 {f0 f1 f2 : Field} (hs : P.underlying t = some (.struct #[f0, f1, f2])) (hone : oneCellFields P #[f0, f1, f2] = true) (hC : P.cellsOf t = 3) (hi0 : P.underlying f0.type = some (.int .i64)) (hi1 : P.underlying f1.type = some (.int .i64)) (hi2 : P.underlying f2.type = some (.int .i64))
    (hv : Value.okWide P w r b0 t v) (h : DataW.Trod enc P w base spare held t v d ps) : ∃ x y z : Int, v = .agg #[.int .i64 x, .int .i64 y, .int .i64 z] ∧ Fit x ∧ Fit y ∧ Fit z := by
  obtain ⟨v0, v1, v2, y0, y1, y2, n, rfl, _, _, h0, h1, h2⟩ := Go.Joins.open_agg3 hs hone hC hv h
  obtain ⟨x0, rfl, k0⟩ := field_int hi0 h0
  obtain ⟨x1, rfl, k1⟩ := field_int hi1 h1
  obtain ⟨x2, rfl, k2⟩ := field_int hi2 h2
  exact ⟨x0, x1, x2, rfl, wf_i64 k0, wf_i64 k1, wf_i64 k2⟩
theorem opg {f0 f1 f2 : Field} (hs : P.underlying t = some (.struct #[f0, f1, f2])) (hone : oneCellFields P #[f0, f1, f2] = true) (hC : P.cellsOf t = 3) (hi0 : P.underlying f0.type = some .bool) (hi1 : P.underlying f1.type = some (.int .i64)) (hi2 : P.underlying f2.type = some (.int .i64))
    (hv : Value.okWide P w r b0 t v) (h : DataW.Trod enc P w base spare held t v d ps) : ∃ (x : Bool) (y z : Int), v = .agg #[.bool x, .int .i64 y, .int .i64 z] ∧ Fit y ∧ Fit z := by
  obtain ⟨v0, v1, v2, y0, y1, y2, n, rfl, _, _, h0, h1, h2⟩ := Go.Joins.open_agg3 hs hone hC hv h
  obtain ⟨x0, rfl⟩ := field_bool hi0 h0
  obtain ⟨x1, rfl, k1⟩ := field_int hi1 h1
  obtain ⟨x2, rfl, k2⟩ := field_int hi2 h2
  exact ⟨x0, x1, x2, rfl, wf_i64 k1, wf_i64 k2⟩
theorem op4 {f0 f1 f2 f3 : Field} (hs : P.underlying t = some (.struct #[f0, f1, f2, f3])) (hone : oneCellFields P #[f0, f1, f2, f3] = true) (hC : P.cellsOf t = 4) (hi0 : P.underlying f0.type = some (.int .i64)) (hi1 : P.underlying f1.type = some (.int .i64)) (hi2 : P.underlying f2.type = some (.int .i64)) (hi3 : P.underlying f3.type = some (.int .i64))
    (hv : Value.okWide P w r b0 t v) (h : DataW.Trod enc P w base spare held t v d ps) : ∃ x y z u : Int, v = .agg #[.int .i64 x, .int .i64 y, .int .i64 z, .int .i64 u] ∧ Fit x ∧ Fit y ∧ Fit z ∧ Fit u := by
  obtain ⟨v0, v1, v2, v3, y0, y1, y2, y3, n, rfl, _, _, h0, h1, h2, h3⟩ := Go.Joins.open_agg4 hs hone hC hv h
  obtain ⟨x0, rfl, k0⟩ := field_int hi0 h0
  obtain ⟨x1, rfl, k1⟩ := field_int hi1 h1
  obtain ⟨x2, rfl, k2⟩ := field_int hi2 h2
  obtain ⟨x3, rfl, k3⟩ := field_int hi3 h3
  exact ⟨x0, x1, x2, x3, rfl, wf_i64 k0, wf_i64 k1, wf_i64 k2, wf_i64 k3⟩

theorem add_lit (b off n : Nat) : (⟨b, off, none⟩ : Addr).add n = ⟨b, off + n, none⟩ := by unfold Addr.add; split <;> simp_all
/-- elements known one by one make a typed list -/
theorem typed {α : Type} {enc' : α → List Value} {sz : Nat} (good : α → Prop) (hsz : ∀ x, 0 < (enc' x).length) {a : Addr} {n : Nat}
    (h : ∀ i, i < n → ∃ x : α, good x ∧ ∀ j v, (enc' x)[j]? = some v → w.cell? (a.add (i * sz + j)) = some v) : ∃ L : List α, L.length = n ∧ (∀ x ∈ L, good x) ∧ Rd enc' sz w w.heap.size (some a) L := by
  rcases Nat.eq_zero_or_pos n with rfl | hn
  · exact ⟨[], rfl, by simp, Rd.nil_⟩
  have : Nonempty α := ⟨Classical.choose (h 0 hn)⟩
  have : Inhabited α := Classical.inhabited_of_nonempty this
  obtain ⟨f, hf⟩ := Go.Deep.choose_lt h
  have hcell0 : ∃ v, w.cell? a = some v := by
    have h0 := (hf 0 hn).2 0
    have hl := hsz (f 0)
    have := h0 _ (List.getElem?_eq_getElem hl)
    simp only [Nat.zero_mul, Nat.zero_add, Addr.add, if_true] at this
    exact ⟨_, this⟩
  obtain ⟨v0, hv0⟩ := hcell0
  have hblk := World.block_lt_of_cell? w a hv0
  have hspot : a = ⟨a.block, a.off, none⟩ := by
    rcases a with ⟨b, o, s⟩
    cases s with
    | none => rfl
    | some q =>
      exfalso
      simp only [World.cell?] at hv0
      split at hv0 <;> simp at hv0
  refine ⟨(List.range n).map f, by simp, ?_, ?_⟩
  · intro x hx
    obtain ⟨i, hi, rfl⟩ := List.mem_map.1 hx
    exact (hf i (List.mem_range.1 hi)).1
  · intro _
    refine ⟨a.block, a.off, by rw [← hspot], hblk, fun k hk j v hv => ?_⟩
    have hk' : k < n := by simpa using hk
    have h1 := (hf k hk').2 j v (by simpa using hv)
    rw [hspot, add_lit] at h1
    simpa [Nat.add_assoc] using h1

/-- an argument that is a slice of structs of one-cell fields -/
theorem opS {α : Type} {enc' : α → List Value} {e : TypeId} {fs : Array Field} (good : α → Prop) (ht : P.underlying t = some (.slice e)) (he : P.underlying e = some (.struct fs)) (hone : oneCellFields P fs = true) (hC : P.cellsOf e = fs.size)
    (hpos : 0 < fs.size) (hlen : ∀ x, (enc' x).length = fs.size)
    (hmk : ∀ (V : Nat → Value) (n : Nat), (∀ (j : Nat) (f : Field), fs[j]? = some f → ∃ y : DataW H × List MemPlace, DataW.trod enc P w base spare held n f.type [V j] = some y) → ∃ x : α, good x ∧ ∀ j u, (enc' x)[j]? = some u → u = V j)
    (hv : Value.okWide P w r b0 t v) (h : DataW.Trod enc P w base spare held t v d ps) : ∃ (A : Option Addr) (c : Nat) (L : List α), v = .slice A L.length c ∧ L.length ≤ c ∧ c ≤ maxLen ∧ (∀ x ∈ L, good x) ∧ Rd enc' fs.size w w.heap.size A L := by
  obtain ⟨A, len, cap, rfl⟩ := okWide_slice ht hv
  obtain ⟨fuel, hf⟩ := h
  rcases Go.Deep.open_slice ht hf with ⟨hcs, _⟩ | ⟨a, len', cap', m, n, D, Pl, hcs, hb, hl, hm, hmm, _, hi⟩
  · have hv' : (Value.slice A len cap) = .slice none 0 0 := by simpa [Value.cells] using hcs
    rw [hv']
    exact ⟨none, 0, [], rfl, Nat.le_refl _, by unfold maxLen; omega, by simp, Rd.nil_⟩
  · have hv' : (Value.slice A len cap) = .slice (some a) len' cap' := by simpa [Value.cells] using hcs
    rw [hv']
    have hle : len' ≤ m := by rw [hmm]; split <;> omega
    obtain ⟨L, hL, hg, hR⟩ := typed (w := w) (enc' := enc') (sz := fs.size) good (fun x => by rw [hlen]; exact hpos) (a := a) (n := len') (fun i hil => by
      obtain ⟨cs', hc, ht'⟩ := hi i (by omega)
      rw [hC] at hc
      obtain ⟨ys, n', hn', hy, hlen', hyl, hf'⟩ := DataW.trod_struct he ht'
      obtain ⟨_, hcl, hat⟩ := World.cells?_some hc
      obtain ⟨x, hx1, hx2⟩ := hmk (fun j => cs'.getD j undef) n' (fun j f hj => by
        obtain ⟨ho, hk⟩ := hone_of hone j f hj
        have hjl : j < fs.size := (Array.getElem?_eq_some_iff.1 hj).1
        have h1 := hf' j f hj
        rw [ho, hk] at h1
        have h2 : (cs'.drop j).take 1 = [cs'.getD j undef] := by
          have hjc : j < cs'.length := by omega
          have h3 : cs'.getD j undef = cs'[j] := by simp [List.getD, hjc]
          rw [h3, List.drop_eq_getElem_cons hjc]
          rfl
        rw [h2] at h1
        exact ⟨ys[j]'(by omega), h1.trans (List.getElem?_eq_getElem (by omega))⟩)
      refine ⟨x, hx1, fun j u hu => ?_⟩
      have hj : j < fs.size := by
        have := (List.getElem?_eq_some_iff.1 hu).1
        rw [hlen] at this; exact this
      have h3 := hat j hj
      rw [Go.Deep.add_add] at h3
      rw [h3, hx2 j u hu]
      have hjc : j < cs'.length := by omega
      simp [List.getD, hjc])
    exact ⟨some a, cap', L, by rw [hL], by omega, hm, hg, hR⟩

/-- an argument that is a slice of one-cell values -/
theorem opS1 {α : Type} {enc' : α → List Value} {e : TypeId} (good : α → Prop) (ht : P.underlying t = some (.slice e)) (hC : P.cellsOf e = 1)
    (hlen : ∀ x, (enc' x).length = 1)
    (hmk : ∀ (V : Value) (n : Nat) (y : DataW H × List MemPlace), DataW.trod enc P w base spare held n e [V] = some y → ∃ x : α, good x ∧ enc' x = [V])
    (hv : Value.okWide P w r b0 t v) (h : DataW.Trod enc P w base spare held t v d ps) : ∃ (A : Option Addr) (c : Nat) (L : List α), v = .slice A L.length c ∧ L.length ≤ c ∧ c ≤ maxLen ∧ (∀ x ∈ L, good x) ∧ Rd enc' 1 w w.heap.size A L := by
  obtain ⟨A, len, cap, rfl⟩ := okWide_slice ht hv
  obtain ⟨fuel, hf⟩ := h
  rcases Go.Deep.open_slice1 ht hC hf with ⟨hcs, _⟩ | ⟨a, len', cap', m, n, V, D, Pl, hcs, hb, hl, hm, hmm, _, hi⟩
  · have hv' : (Value.slice A len cap) = .slice none 0 0 := by simpa [Value.cells] using hcs
    rw [hv']
    exact ⟨none, 0, [], rfl, Nat.le_refl _, by unfold maxLen; omega, by simp, Rd.nil_⟩
  · have hv' : (Value.slice A len cap) = .slice (some a) len' cap' := by simpa [Value.cells] using hcs
    rw [hv']
    have hle : len' ≤ m := by rw [hmm]; split <;> omega
    obtain ⟨L, hL, hg, hR⟩ := typed (w := w) (enc' := enc') (sz := 1) good (fun x => by rw [hlen]; exact Nat.one_pos) (a := a) (n := len') (fun i hil => by
      obtain ⟨hc, ht'⟩ := hi i (by omega)
      obtain ⟨x, hx1, hx2⟩ := hmk _ _ _ ht'
      refine ⟨x, hx1, fun j u hu => ?_⟩
      rw [hx2] at hu
      have hj : j < 1 := by simpa using (List.getElem?_eq_some_iff.1 hu).1
      obtain rfl : j = 0 := by omega
      simp only [List.getElem?_cons_zero, Option.some.injEq] at hu
      subst hu
      simpa using hc)
    exact ⟨some a, cap', L, by rw [hL], by omega, hm, hg, hR⟩
end


end Go.Proofs.YtcdpgdpabmlpdaaDoor
