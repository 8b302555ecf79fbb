/- The best hours, plainly, and the closures of BestHours. -/
import Derived.Test.YtcdpgdpabmlpdaaBestW
import Derived.Test.YtcdpgdpabmlpdaaHours
namespace Go.Proofs.Ytcdpgdpabmlpdaa
open Go.RowKit Go.Sort Go.Lib Go.Shelf

def posP (F : List Int) (k : Nat) : Bool := decide (0 < F.getD k 0)
def bhH (F : List Int) : List Int := whr (posP F) F.length
def le2 (F : List Int) (i j : Int) : Bool := decide (F.getD j.toNat 0 < F.getD i.toNat 0) || (decide (F.getD i.toNat 0 = F.getD j.toNat 0) && decide (i ≤ j))
def leI (a b : Int) : Bool := decide (a ≤ b)
/-- the hours with water, the greatest flow first, the earlier first among equals -/
def bhM (F : List Int) : List Int := (bhH F).mergeSort (le2 F)
def bhR (F : List Int) (k : Nat) : List Int := ((bhM F).take k).mergeSort leI
theorem le2_iff {F : List Int} {i j : Int} : le2 F i j = true ↔ F.getD j.toNat 0 < F.getD i.toNat 0 ∨ (F.getD i.toNat 0 = F.getD j.toNat 0 ∧ i ≤ j) := by simp [le2]
theorem le2_trans (F : List Int) (a b c : Int) (h1 : le2 F a b = true) (h2 : le2 F b c = true) : le2 F a c = true := by
  rw [le2_iff] at *; omega
theorem le2_total (F : List Int) (a b : Int) : (le2 F a b || le2 F b a) = true := by
  rw [Bool.or_eq_true, le2_iff, le2_iff]; omega
theorem le2_anti {F : List Int} {a b : Int} (h1 : le2 F a b = true) (h2 : le2 F b a = true) : a = b := by
  rw [le2_iff] at *; omega
theorem leI_trans (a b c : Int) (h1 : leI a b = true) (h2 : leI b c = true) : leI a c = true := by
  simp only [leI, decide_eq_true_eq] at *; omega
theorem leI_total (a b : Int) : (leI a b || leI b a) = true := by
  simp only [leI, Bool.or_eq_true, decide_eq_true_eq]; omega
theorem leI_anti {a b : Int} (h1 : leI a b = true) (h2 : leI b a = true) : a = b := by
  simp only [leI, decide_eq_true_eq] at *; omega
theorem bhM_perm (F : List Int) : (bhM F).Perm (bhH F) := List.mergeSort_perm _ _
theorem bhM_pair (F : List Int) : (bhM F).Pairwise (fun a b => le2 F a b = true) := List.pairwise_mergeSort (le2_trans F) (le2_total F) _
theorem bhM_one {F M : List Int} (hp : M.Perm (bhH F)) (hs : M.Pairwise (fun a b => le2 F a b = true)) : M = bhM F :=
  List.Perm.eq_of_pairwise (fun _ _ _ _ => le2_anti) hs (bhM_pair F) (hp.trans (bhM_perm F).symm)
theorem bhR_perm (F : List Int) (k : Nat) : (bhR F k).Perm ((bhM F).take k) := List.mergeSort_perm _ _
theorem bhR_pair (F : List Int) (k : Nat) : (bhR F k).Pairwise (fun a b => leI a b = true) := List.pairwise_mergeSort leI_trans leI_total _
theorem bhR_one {F R : List Int} {k : Nat} (hp : R.Perm ((bhM F).take k)) (hs : R.Pairwise (fun a b => leI a b = true)) : R = bhR F k :=
  List.Perm.eq_of_pairwise (fun _ _ _ _ => leI_anti) hs (bhR_pair F k) (hp.trans (bhR_perm F k).symm)
theorem bhM_len (F : List Int) : (bhM F).length = (bhH F).length := (bhM_perm F).length_eq
theorem bhH_len (F : List Int) : (bhH F).length ≤ F.length := whr_len _ _
theorem bhH_mem {F : List Int} {i : Int} : i ∈ bhH F ↔ ∃ k : Nat, k < F.length ∧ posP F k = true ∧ i = (k : Int) := by
  simp only [bhH, whr, List.mem_map, List.mem_filter, List.mem_range]
  constructor
  · rintro ⟨k, ⟨h1, h2⟩, rfl⟩; exact ⟨k, h1, h2, rfl⟩
  · rintro ⟨k, h1, h2, rfl⟩; exact ⟨k, ⟨h1, h2⟩, rfl⟩
theorem bhH_asc (F : List Int) : (bhH F).Pairwise (fun a b => a < b) := by
  unfold bhH whr
  rw [List.pairwise_map]
  refine List.Pairwise.filter _ ?_
  exact List.pairwise_lt_range.imp (fun h => by omega)
/-! ### Hours as places -/
def valI {n : Nat} (i : Fin n) : Int := ((i.val : Nat) : Int)
def encI {n : Nat} (i : Fin n) : Value := .int .i64 ((i.val : Nat) : Int)
def ltF {n : Nat} (F : List Int) (i j : Fin n) : Bool := decide (F.getD j.val 0 < F.getD i.val 0)
def toF (n : Nat) (i : Int) : Fin (n + 1) := ⟨min i.toNat n, by omega⟩
theorem ltF_swo {n : Nat} (F : List Int) : SWO (ltF (n := n) F) where
  irrefl x := by simp [ltF]
  trans x y z h1 h2 := by simp only [ltF, decide_eq_true_eq] at *; omega
  ntrans x y z h1 h2 := by simp only [ltF, decide_eq_false_iff_not] at *; omega
def hf (F : List Int) (n : Nat) : List (Fin (n + 1)) := (bhH F).map (toF n)
theorem hf_val {F : List Int} {n : Nat} (hn : F.length = n + 1) : (hf F n).map valI = bhH F := by
  unfold hf
  rw [List.map_map]
  have h : ∀ i ∈ bhH F, (valI ∘ toF n) i = id i := fun i hi => by
    obtain ⟨k, hk, _, rfl⟩ := bhH_mem.1 hi
    simp only [Function.comp, valI, toF, id, Int.toNat_natCast]
    omega
  rw [List.map_congr_left h, List.map_id]
theorem hf_asc {F : List Int} {n : Nat} (hn : F.length = n + 1) : ∀ k l, k < l → l < (hf F n).toArray.size → valI (hf F n).toArray[k]! < valI (hf F n).toArray[l]! := by
  intro k l hkl hl
  have hl2 : l < (hf F n).length := by simpa using hl
  have hp := bhH_asc F
  rw [← hf_val hn, List.pairwise_map, List.pairwise_iff_getElem] at hp
  have := hp k l (by omega) hl2 hkl
  rw [getElem!_pos _ k (by simpa using (by omega : k < (hf F n).length)), getElem!_pos _ l hl]
  simpa using this
theorem sorted_bhM {F : List Int} {n : Nat} (hn : F.length = n + 1) {c : Array (Fin (n + 1))} (hz : c.size = (hf F n).toArray.size) (hp : PermIn 0 (hf F n).toArray.size (hf F n).toArray c) (hs : Srt (ltF F) valI c 0 (hf F n).toArray.size) : c.toList.map valI = bhM F := by
  refine bhM_one ?_ ?_
  · have h := hp.2.2
    rw [← hz] at h
    simp only [Array.extract_size] at h
    rw [hz, Array.extract_size] at h
    have h2 := h.map valI
    rw [← hf_val hn]
    simpa using h2
  · rw [List.pairwise_map, List.pairwise_iff_getElem]
    intro i j hi hj hij
    have hi' : i < c.size := by simpa using hi
    have hj' : j < c.size := by simpa using hj
    have h := hs i j (Nat.zero_le _) hij (by rw [← hz]; exact hj')
    rw [getElem!_pos c i hi', getElem!_pos c j hj'] at h
    obtain ⟨h1, h2⟩ := lt2_f.1 h
    simp only [ltF, decide_eq_false_iff_not, decide_eq_true_eq] at h1 h2
    rw [le2_iff]
    simp only [valI, Int.toNat_natCast, Array.getElem_toList] at *
    omega

end Go.Proofs.Ytcdpgdpabmlpdaa
