/- The library's two sorts at lists of int64. -/
import Derived.Test.YtcdpgdpabmlpdaaSymW4
import Derived.Test.YtcdpgdpabmlpdaaApp
import Derived.Sort.OwnSortedInts
namespace Go.Proofs.Ytcdpgdpabmlpdaa
open Go.RowKit Go.Sort Go.Lib Go.Shelf

theorem infoE : (Try.prog.info? 2).map (fun i => (i.size, i.bytes, i.hasPointers)) = some (1, 8, false) := by kernel_rfl
theorem infoT : (Try.prog.info? 24).map (fun i => i.desc) = some (.slice 2) := by kernel_rfl
theorem infoT_ex : ∃ i, Try.prog.info? 24 = some i ∧ i.desc = .slice 2 := by
  have h := infoT
  cases hi : Try.prog.info? 24 with
  | none => rw [hi] at h; cases h
  | some i => rw [hi] at h; exact ⟨i, rfl, Option.some.inj h⟩
theorem infoE_ex : ∃ i, Try.prog.info? 2 = some i ∧ i.size = 1 ∧ i.bytes = 8 ∧ i.hasPointers = false := by
  have h := infoE
  cases hi : Try.prog.info? 2 with
  | none => rw [hi] at h; cases h
  | some i =>
    rw [hi] at h
    have h2 := Option.some.inj h
    simp only [Prod.mk.injEq] at h2
    exact ⟨i, rfl, h2.1, h2.2.1, h2.2.2⟩
theorem swK {ie : TypeInfo} (hp : ie.hasPointers = false) (hb : ie.bytes = 8) (n : Nat) (h2 : 2 ≤ n) : Lib.swapperK n ie 6 = 5 := by
  have c : (n == 0) = false := by simp; omega
  have d : (n == 1) = false := by simp; omega
  simp [Lib.swapperK, hp, hb, c, d]
theorem swK0 (ie : TypeInfo) : Lib.swapperK 0 ie 6 = 1 := by simp [Lib.swapperK]
theorem swK1 (ie : TypeInfo) : Lib.swapperK 1 ie 6 = 2 := by simp [Lib.swapperK]
theorem sw_of_grow {α : Type} [Inhabited α] {enc : α → Value} {w w' : World} {blk off : Nat} {c : Array α} {os : Array Obj} (h : SW enc (Sort.grow w os) blk off c w') (hblk : blk < w.heap.size) : SW enc w blk off c w' := by
  obtain ⟨n, os2, rfl⟩ := h
  exact ⟨n, os ++ os2, by unfold sortWorld; rw [ahead_grow, putRow_grow enc (Sort.ahead w n) _ blk off _ hblk, grow_grow]⟩
theorem two_grow (w : World) (o o2 : Obj) : ∃ os, (w.alloc o).alloc o2 = Sort.grow w os := ⟨#[o] ++ #[o2], by rw [alloc_eq_grow, alloc_eq_grow, grow_grow]⟩

theorem sortStable_c {α : Type} [Inhabited α] (enc : α → Value) (h1 : ∀ x, (enc x).oneCell' = true) (lt : α → α → Bool) (pos : α → Int) (hO : SWO lt) (g : Nat) (lb : Array Value) (eg : ∀ args w, (callFunc g args).run Try.prog w = .ok (.enter g args) w)
    (blk c : Nat) (d : Array α) (h2 : 2 ≤ d.size) (hsm : d.size ≤ 1000000) (w : World) (hless : LessReads Try.prog g lb enc lt blk 0 d.size w) (hH : Holds enc w blk 0 d) (hblk : blk < w.heap.size) (hx : ∀ k l, k < l → l < d.size → pos d[k]! < pos d[l]!) :
    Calls Try.prog 22 #[.iface 24 (.slice (some ⟨blk, 0, none⟩) d.size c), .func (.func g) #[] lb] w fun e w' =>
      e = .returned (.tuple #[]) ∧ ∃ c' : Array α, c'.size = d.size ∧ PermIn 0 d.size d c' ∧ Srt lt pos c' 0 d.size ∧ SW enc w blk 0 c' w' := by
  obtain ⟨iT, hi, hd⟩ := infoT_ex
  obtain ⟨iE, hie, hs1, hby, hpt⟩ := infoE_ex
  refine Any.sort_SliceStable_of_stable Try.laysGt8 24 2 iT iE hi hd (by kernel_rfl) hie 6 (fun _ => by kernel_rfl) _ d.size c (by omega) 45 (by rw [swK hpt hby _ h2]; kernel_rfl) (.func g) #[] lb w _ ?_
  have hB : sliceBound Try.prog 2 iE 6 (some ⟨blk, 0, none⟩) d.size c = #[.slice (some ⟨blk, 0, none⟩) d.size c, typeHandle Try.prog 2] := by
    unfold sliceBound; rw [if_neg (swapperK_gt _ _ _ h2)]
  obtain ⟨os0, hW⟩ : ∃ os0, stableWorld Try.prog Try.laysGt8_ren 24 (some ⟨blk, 0, none⟩) d.size c w = Sort.grow w os0 := by
    exact two_grow w _ _
  rw [hB, hW]
  have E : SEnv enc lt g lb 45 #[.slice (some ⟨blk, 0, none⟩) d.size c, typeHandle Try.prog 2] blk 0 d.size (Sort.grow w os0) d :=
    ⟨eg, hless.grow hblk os0, swapSwaps_of_literal true _ (fun args W => run_callFunc_extern Try.func45 (by kernel_rfl) (by kernel_rfl) (by kernel_rfl) (e := Extern.ReflectliteSwapper.swap true) (by kernel_rfl) args W) 2 iE hie hs1 (fun _ => by kernel_rfl) enc h1 blk 0 d.size c,
      holds_grow enc w _ blk 0 d hblk hH, by rw [size_grow]; omega, rfl, hsm⟩
  refine (stable_c (pos := pos) hO E hx).mono ?_
  rintro e w' ⟨he, c', p1, p2, p3, p4⟩
  exact ⟨he, c', p1, p2, p3, sw_of_grow p4 hblk⟩

theorem below_grow (w : World) (os : Array Obj) : Below w.heap.size w (Sort.grow w os) := ⟨rfl, rfl, rfl, by simp, fun k hk => heap_grow_old w os hk⟩
theorem sortStable_tiny (p : Option Addr) (n c : Nat) (hn : n ≤ 1) (lf : Fn) (la lb : Array Value) (w : World) : Calls Try.prog 22 #[.iface 24 (.slice p n c), .func lf la lb] w fun e w' => e = .returned (.tuple #[]) ∧ Below w.heap.size w w' := by
  obtain ⟨iT, hi, hd⟩ := infoT_ex
  obtain ⟨iE, hie, hs1, hby, hpt⟩ := infoE_ex
  rcases (show n = 0 ∨ n = 1 by omega) with rfl | rfl
  · exact (Any.sort_SliceStable_tiny Try.laysGt8 24 2 iT iE hi hd (by kernel_rfl) hie 6 (fun _ => by kernel_rfl) p 0 c hn 41 (by rw [swK0]; kernel_rfl) lf la lb w).mono fun _ _ ⟨he, os, hw⟩ => ⟨he, by rw [hw]; exact below_grow w os⟩
  · exact (Any.sort_SliceStable_tiny Try.laysGt8 24 2 iT iE hi hd (by kernel_rfl) hie 6 (fun _ => by kernel_rfl) p 1 c hn 42 (by rw [swK1]; kernel_rfl) lf la lb w).mono fun _ _ ⟨he, os, hw⟩ => ⟨he, by rw [hw]; exact below_grow w os⟩
theorem sortSlice_tiny (p : Option Addr) (n c : Nat) (hn : n ≤ 1) (lf : Fn) (la lb : Array Value) (w : World) : Calls Try.prog 25 #[.iface 24 (.slice p n c), .func lf la lb] w fun e w' => e = .returned (.tuple #[]) ∧ Below w.heap.size w w' := by
  obtain ⟨iT, hi, hd⟩ := infoT_ex
  obtain ⟨iE, hie, hs1, hby, hpt⟩ := infoE_ex
  rcases (show n = 0 ∨ n = 1 by omega) with rfl | rfl
  · exact (Any.sort_Slice_tiny Try.laysGg6 24 2 iT iE hi hd (by kernel_rfl) hie 6 (fun _ => by kernel_rfl) p 0 c hn 41 (by rw [swK0]; kernel_rfl) lf la lb w).mono fun _ _ ⟨he, os, hw⟩ => ⟨he, by rw [hw]; exact below_grow w os⟩
  · exact (Any.sort_Slice_tiny Try.laysGg6 24 2 iT iE hi hd (by kernel_rfl) hie 6 (fun _ => by kernel_rfl) p 1 c hn 42 (by rw [swK1]; kernel_rfl) lf la lb w).mono fun _ _ ⟨he, os, hw⟩ => ⟨he, by rw [hw]; exact below_grow w os⟩

theorem sortSlice_c {α : Type} [Inhabited α] (enc : α → Value) (h1 : ∀ x, (enc x).oneCell' = true) (lt : α → α → Bool) (hO : SWO lt) (g : Nat) (lb : Array Value) (eg : ∀ args w, (callFunc g args).run Try.prog w = .ok (.enter g args) w)
    (blk c : Nat) (d : Array α) (h2 : 2 ≤ d.size) (hsm : d.size ≤ 1000000) (w : World) (hless : LessReads Try.prog g lb enc lt blk 0 d.size w) (hH : Holds enc w blk 0 d) (hblk : blk < w.heap.size) :
    Calls Try.prog 25 #[.iface 24 (.slice (some ⟨blk, 0, none⟩) d.size c), .func (.func g) #[] lb] w fun e w' =>
      e = .returned (.tuple #[]) ∧ ∃ c' : Array α, PermIn 0 d.size d c' ∧ SortedIn lt 0 d.size c' ∧ SW enc w blk 0 c' w' := by
  obtain ⟨iT, hi, hd⟩ := infoT_ex
  obtain ⟨iE, hie, hs1, hby, hpt⟩ := infoE_ex
  refine (Any.sort_Slice_sorted Try.laysGg6 24 2 iT iE hi hd (by kernel_rfl) hie 6 (fun _ => by kernel_rfl) hs1 (fun _ => by kernel_rfl) enc h1 lt hO g lb eg blk 0 c d h2 (by omega) 45 (by rw [swK hpt hby _ h2]; kernel_rfl) true
    (fun args W => run_callFunc_extern Try.func45 (by kernel_rfl) (by kernel_rfl) (by kernel_rfl) (e := Extern.ReflectliteSwapper.swap true) (by kernel_rfl) args W) w hless hH hblk).mono ?_
  rintro e w' ⟨he, c', n, os, p1, p2, rfl⟩
  exact ⟨he, c', p1, p2, n, os, rfl⟩

end Go.Proofs.Ytcdpgdpabmlpdaa
