/- The contracts of FewestMills: the subsets in their order, and the first that lifts enough. -/
import Derived.Test.YtbaffjjafkpcfaaStage3
import Derived.Test.YtbaffjjafkpcfaaSS3
import Derived.Test.YtbaffjjafkpcfaaCurve
import Derived.Laws.AppendOwnNone
namespace Go.Proofs.Ytbaffjjafkpcfaa
open Go.RowKit

/-- the first of c numbers from k on at which something is found -/
def findFrom {α : Type} (g : Nat → Option α) (c k : Nat) : Option α := (List.range' k c).findSome? g
theorem findFrom_some {α : Type} {g : Nat → Option α} {x : α} : ∀ (c k q : Nat), k ≤ q → q < k + c → (∀ j, k ≤ j → j < q → g j = none) → g q = some x → findFrom g c k = some x
  | 0, k, q, h1, h2, _, _ => by omega
  | c + 1, k, q, h1, h2, h3, h4 => by
    rw [findFrom, List.range'_succ, List.findSome?_cons]
    by_cases e : k = q
    · subst e; rw [h4]
    · rw [h3 k (Nat.le_refl _) (by omega)]
      exact findFrom_some c (k + 1) q (by omega) (by omega) (fun j hj hq => h3 j (by omega) hq) h4
theorem findFrom_none {α : Type} {g : Nat → Option α} : ∀ (c k : Nat), (∀ j, k ≤ j → j < k + c → g j = none) → findFrom g c k = none
  | 0, _, _ => rfl
  | c + 1, k, h => by
    rw [findFrom, List.range'_succ, List.findSome?_cons, h k (Nat.le_refl _) (by omega)]
    exact findFrom_none c (k + 1) (fun j hj hq => h j (by omega) (by omega))
/-- the first set of so many more mills, from an index on -/
def setF (R : List Int) : Nat → Nat → Int → Option (List Nat)
  | 0, _, left => if left ≤ 0 then some [] else none
  | m + 1, f, left => findFrom (fun i => (setF R m (i + 1) (left - R.getD i 0)).map (fun t => i :: t)) (R.length - f) f
def fewO (R : List Int) (rate : Int) : Option (List Nat) := findFrom (fun m => setF R m 0 rate) R.length 1
def lsum (R : List Int) (l : List Nat) : Int := (l.map (fun i => R.getD i 0)).sum
def combos (n : Nat) : Nat → Nat → List (List Nat)
  | 0, _ => [[]]
  | m + 1, f => (List.range' f (n - f)).flatMap (fun i => (combos n m (i + 1)).map (fun t => i :: t))
def subT (n : Nat) : List (List Nat) := (List.range' 0 (n + 1)).flatMap (fun m => combos n m 0)
theorem setF_eq (R : List Int) : ∀ (m f : Nat) (left : Int), setF R m f left = (combos R.length m f).find? (fun l => decide (left - lsum R l ≤ 0))
  | 0, f, left => by
    have e : left - lsum R [] = left := by simp [lsum]
    rw [setF, combos, List.find?_cons, e]
    by_cases h : left ≤ 0
    · rw [if_pos h, decide_eq_true h]
    · rw [if_neg h, decide_eq_false h]; rfl
  | m + 1, f, left => by
    rw [setF, combos, List.find?_flatMap, findFrom]
    congr 1
    funext i
    rw [setF_eq R m (i + 1), List.find?_map]
    have e : ((fun l => decide (left - lsum R l ≤ 0)) ∘ fun t => i :: t) = fun l => decide (left - R.getD i 0 - lsum R l ≤ 0) := by
      funext t
      have : left - lsum R (i :: t) = left - R.getD i 0 - lsum R t := by
        simp only [lsum, List.map_cons, List.sum_cons]; omega
      simp only [Function.comp_apply, this]
    rw [e]
theorem few_find (R : List Int) (rate : Int) (h : 1 ≤ rate) : (subT R.length).find? (fun l => decide (rate ≤ lsum R l)) = fewO R rate := by
  have e : (fun l => decide (rate ≤ lsum R l)) = fun l => decide (rate - lsum R l ≤ 0) := by
    funext l
    exact decide_eq_decide.2 (by omega)
  rw [e, subT, List.find?_flatMap, fewO, findFrom, List.range'_succ, List.findSome?_cons]
  have e0 : (combos R.length 0 0).find? (fun l => decide (rate - lsum R l ≤ 0)) = none := by
    rw [← setF_eq, setF, if_neg (by omega)]
  rw [e0]
  simp only [Nat.zero_add]
  congr 1
  funext m
  rw [setF_eq]
def nextOf (l : List Nat) : Nat := match l.getLast? with | none => 0 | some x => x + 1
def kids (n : Nat) (l : List Nat) : List (List Nat) := (List.range' (nextOf l) (n - nextOf l)).map (fun j => l ++ [j])
/-- the queue behind i rounds -/
def qs (n : Nat) : Nat → List (List Nat)
  | 0 => [[]]
  | i + 1 => qs n i ++ kids n ((qs n i).getD i [])
def qgo (n : Nat) : Nat → Nat → List (List Nat) → Bool
  | 0, i, L => Nat.beq L.length i && decide (L = subT n)
  | f + 1, i, L => Nat.ble (i + 1) L.length && qgo n f (i + 1) (L ++ kids n (L.getD i []))
theorem qgo_spec (n : Nat) : ∀ (f i : Nat), qgo n f i (qs n i) = true → (∀ j, i ≤ j → j < i + f → j < (qs n j).length) ∧ (qs n (i + f)).length = i + f ∧ qs n (i + f) = subT n
  | 0, i, h => by
    simp only [qgo, Bool.and_eq_true, decide_eq_true_eq] at h
    exact ⟨fun j h1 h2 => by omega, Nat.eq_of_beq_eq_true h.1, h.2⟩
  | f + 1, i, h => by
    simp only [qgo, Bool.and_eq_true] at h
    have h1 := Nat.le_of_ble_eq_true h.1
    obtain ⟨a, b, c⟩ := qgo_spec n f (i + 1) h.2
    refine ⟨fun j hj hj2 => ?_, by rw [show i + (f + 1) = i + 1 + f by omega]; exact b, by rw [show i + (f + 1) = i + 1 + f by omega]; exact c⟩
    by_cases e : i = j
    · subst e; exact h1
    · exact a j (by omega) (by omega)
theorem qgo_all : qgo 1 2 0 [[]] = true ∧ qgo 2 4 0 [[]] = true ∧ qgo 3 8 0 [[]] = true ∧ qgo 4 16 0 [[]] = true ∧ qgo 5 32 0 [[]] = true ∧ qgo 6 64 0 [[]] = true ∧ qgo 7 128 0 [[]] = true ∧ qgo 8 256 0 [[]] = true :=
  ⟨by kernel_rfl, by kernel_rfl, by kernel_rfl, by kernel_rfl, by kernel_rfl, by kernel_rfl, by kernel_rfl, by kernel_rfl⟩
/-- how many subsets there are -/
def pow2 (n : Nat) : Nat := 2 ^ n
theorem qs_end {n : Nat} (h1 : 1 ≤ n) (h8 : n ≤ 8) : (∀ j, j < pow2 n → j < (qs n j).length) ∧ (qs n (pow2 n)).length = pow2 n ∧ qs n (pow2 n) = subT n := by
  have key : ∀ n, qgo n (pow2 n) 0 [[]] = true → (∀ j, j < pow2 n → j < (qs n j).length) ∧ (qs n (pow2 n)).length = pow2 n ∧ qs n (pow2 n) = subT n := fun n h => by
    obtain ⟨a, b, c⟩ := qgo_spec n (pow2 n) 0 h
    rw [Nat.zero_add] at b c
    exact ⟨fun j hj => a j (Nat.zero_le _) (by omega), b, c⟩
  obtain ⟨a1, a2, a3, a4, a5, a6, a7, a8⟩ := qgo_all
  rcases (show n = 1 ∨ n = 2 ∨ n = 3 ∨ n = 4 ∨ n = 5 ∨ n = 6 ∨ n = 7 ∨ n = 8 by omega) with rfl | rfl | rfl | rfl | rfl | rfl | rfl | rfl
  · exact key 1 a1
  · exact key 2 a2
  · exact key 3 a3
  · exact key 4 a4
  · exact key 5 a5
  · exact key 6 a6
  · exact key 7 a7
  · exact key 8 a8
theorem pow2_le {n : Nat} (h : n ≤ 8) : pow2 n ≤ 256 := by
  unfold pow2
  exact Nat.pow_le_pow_right (by omega) h
theorem kids_len (n : Nat) (l : List Nat) : (kids n l).length = n - nextOf l := by simp [kids]
theorem qs_len (n i : Nat) : (qs n i).length ≤ 1 + n * i := by
  induction i with
  | zero => simp [qs]
  | succ i ih =>
    rw [qs, List.length_append, kids_len, Nat.mul_succ]
    omega
theorem nextOf_le {n : Nat} {l : List Nat} (h : ∀ x ∈ l, x < n) : nextOf l ≤ n := by
  unfold nextOf
  cases e : l.getLast? with
  | none => exact Nat.zero_le _
  | some x => exact h x (List.mem_of_getLast? e)
theorem kids_good {n : Nat} {l : List Nat} (h : ∀ x ∈ l, x < n) : ∀ k ∈ kids n l, k.length = l.length + 1 ∧ ∀ x ∈ k, x < n := by
  intro k hk
  obtain ⟨j, hj, rfl⟩ := List.mem_map.1 hk
  rw [List.mem_range'_1] at hj
  have hn := nextOf_le h
  refine ⟨by simp, fun x hx => ?_⟩
  rcases List.mem_append.1 hx with hx | hx
  · exact h x hx
  · simp only [List.mem_singleton] at hx
    omega
theorem qs_good (n i : Nat) : ∀ l ∈ qs n i, l.length ≤ i ∧ ∀ x ∈ l, x < n := by
  induction i with
  | zero => intro l hl; simp only [qs, List.mem_singleton] at hl; subst hl; simp
  | succ i ih =>
    intro l hl
    rw [qs] at hl
    rcases List.mem_append.1 hl with hl | hl
    · have := ih l hl
      exact ⟨by omega, this.2⟩
    · have hg : ((qs n i).getD i []).length ≤ i ∧ ∀ x ∈ (qs n i).getD i [], x < n := by
        by_cases hi : i < (qs n i).length
        · rw [getD_at (get_at hi)]; exact ih _ (List.getElem_mem hi)
        · rw [List.getD, List.getElem?_eq_none (by omega)]; simp
      have := kids_good hg.2 l hl
      exact ⟨by omega, this.2⟩
/-- the numbers as the program holds them -/
def rowI (l : List Nat) : List Int := l.map (fun x : Nat => (x : Int))
theorem rowI_len (l : List Nat) : (rowI l).length = l.length := by simp [rowI]
theorem rowI_at {l : List Nat} {k : Nat} {x : Nat} (h : l[k]? = some x) : (rowI l)[k]? = some (x : Int) := by simp [rowI, h]
theorem rowI_snoc (l : List Nat) (x : Nat) : rowI (l ++ [x]) = rowI l ++ [(x : Int)] := by simp [rowI]
theorem nextOf_last {l : List Nat} (h : 0 < l.length) : ((nextOf l : Nat) : Int) = lastM (rowI l) + 1 := by
  have hk : l.length - 1 < l.length := by omega
  have e1 : l.getLast? = some l[l.length - 1] := by rw [List.getLast?_eq_getElem?, get_at hk]
  have e2 : lastM (rowI l) = (l[l.length - 1] : Int) := by
    rw [lastM, rowI_len, getD_at (rowI_at (get_at hk))]
  rw [e2, nextOf, e1]
  simp only [Int.natCast_add]
  rfl
theorem nextOf_nil : nextOf [] = 0 := rfl
theorem lsum_snoc (R : List Int) (l : List Nat) (k : Nat) {x : Nat} (h : l[k]? = some x) : lsum R (l.take (k + 1)) = lsum R (l.take k) + R.getD x 0 := by
  obtain ⟨hk, rfl⟩ := List.getElem?_eq_some_iff.1 h
  rw [lsum, List.take_succ_eq_append_getElem hk, List.map_append, List.sum_append]
  simp [lsum]
theorem lsum_bd {R : List Int} (hR : ∀ (i : Nat) (x : Int), R[i]? = some x → 0 ≤ x ∧ x ≤ 10000) (l : List Nat) : 0 ≤ lsum R l ∧ lsum R l ≤ 10000 * (l.length : Int) := by
  induction l with
  | nil => simp [lsum]
  | cons i l ih =>
    have hi : 0 ≤ R.getD i 0 ∧ R.getD i 0 ≤ 10000 := by
      by_cases h : i < R.length
      · rw [getD_at (get_at h)]; exact hR i _ (get_at h)
      · rw [List.getD, List.getElem?_eq_none (by omega)]; simp
    simp only [lsum, List.map_cons, List.sum_cons, List.length_cons] at ih ⊢
    omega
/-- the answer: none where no set lifts enough -/
def fmO (L : List (Int × Int × Int × Int)) (f r : Int) : Option (List Nat) := fewO (mrTo L f L.length) r
def fmCode (L : List (Int × Int × Int × Int)) (f r : Int) : Int := if millsOk L then (if inB f 0 12 && inB r 1 80000 then (if (fmO L f r).isSome then 0 else 3) else 2) else 1
def fmList (L : List (Int × Int × Int × Int)) (f r : Int) : List Int := if fmCode L f r = 0 then rowI ((fmO L f r).getD []) else []
theorem setF_len (R : List Int) : ∀ (m f : Nat) (left : Int) (l : List Nat), setF R m f left = some l → l.length = m
  | 0, f, left, l, h => by
    rw [setF] at h
    split at h
    · injection h with h; subst h; rfl
    · cases h
  | m + 1, f, left, l, h => by
    rw [setF, findFrom] at h
    obtain ⟨i, _, hi⟩ := List.exists_of_findSome?_eq_some h
    obtain ⟨t, ht, rfl⟩ := Option.map_eq_some_iff.1 hi
    rw [List.length_cons, setF_len R m _ _ t ht]
theorem fmList_len (L : List (Int × Int × Int × Int)) (f r : Int) : (fmList L f r).length ≤ 1000000 := by
  unfold fmList
  split
  · rename_i h
    have hm : millsOk L = true := by
      cases h1 : millsOk L
      · simp [fmCode, h1] at h
      · rfl
    have hl := millsOk_len hm
    rw [rowI_len]
    cases e : fmO L f r with
    | none => simp
    | some l =>
      rw [fmO, fewO, findFrom] at e
      obtain ⟨m, hmm, hi⟩ := List.exists_of_findSome?_eq_some e
      rw [List.mem_range'_1, mrTo_len (Nat.le_refl _)] at hmm
      have := setF_len _ _ _ _ _ hi
      simp only [Option.getD_some]
      omega
  · simp

theorem cloneI_c (A : Option Addr) (c : Nat) (L : List Int) (B : Nat) (w : World) (hR : Rd e1 1 w B A L) (hA : A = none → c = 0) (hl : L.length ≤ 1000000) :
    Calls Try.prog 65 #[.slice A L.length c] w fun e w' => ∃ v, e = .returned v ∧ Own e1 1 w' w.heap.size 2 v L ∧ Below w.heap.size w w' := by
  have hb0 := below_alloc1 w (.cells #[] 2)
  have ho : Own e1 1 (w.alloc (.cells #[] 2)) w.heap.size 2 (.slice (some ⟨w.heap.size, 0, none⟩) 0 0) ([] : List Int) := own_empty w _
  obtain ⟨i0, hi, hz0, hz1, hz2⟩ := info_parts infoInt64
  have HO := Lib.hid ho
  have HB := Lib.hid hb0
  have hR2 : 0 < L.length → Rd e1 1 (w.alloc (.cells #[] 2)) B A L := fun h0 => by
    obtain ⟨b, off, e, hbB, hc⟩ := hR h0
    subst e
    have hlt : b < w.heap.size := World.block_lt_of_cell? w _ (hc 0 h0 0 _ rfl)
    exact fun _ => ⟨b, off, rfl, hbB, fun k hk j v hv => kc hb0 (hc k hk j v hv)⟩
  have HR := Lib.hid hR2
  clear ho hb0 hR hR2
  rcases Nat.eq_zero_or_pos L.length with h0 | h0
  · obtain rfl : L = [] := List.eq_nil_of_length_eq_zero h0
    cases A with
    | none =>
      obtain rfl := hA rfl
      clear hA h0 hl HR
      go_enter Try.func65, Try.ntmps65
      go_wp2_with (at_builtin; refine wpList_append_own_none rfl _ _ 22 rfl w.heap.size 2 i0 1 Try.underlying22 hi _ _ _ rfl HO.out rfl ?_)
      go_ret
      exact ⟨_, rfl, HO.out, HB.out⟩
    | some ad =>
      clear hA h0 hl HR
      go_enter Try.func65, Try.ntmps65
      go_wp2_with (at_builtin; refine wpList_append_own _ rfl _ _ 22 rfl w.heap.size 2 i0 _ 1 8 Try.underlying22 hi hz0 hz1 hz2 rfl (by decide) _ _ _ rfl HO.out ad 0 c [] rfl rfl (fun j u hu => by simp at hu) (fun u hu => by simp at hu) (by unfold maxLen; simp) (by simp) (by simp) ?_; intro v2 w2 hown2 hg2 _; have HB2 := Lib.hid (HB.out.grown hg2 (by simp) (fun k hk => (HO.out.lt k hk).1)); have HO2 := Lib.hid hown2; clear hown2 hg2)
      go_ret
      exact ⟨_, rfl, HO2.out, HB2.out⟩
  · clear hA
    go_enter Try.func65, Try.ntmps65
    go_wp2_with (at_builtin; refine appSInt64 _ _ rfl rfl _ [] L rfl HO.out HB.out rfl (HR.out h0) h0 (by simp; omega) ?_; intro v2 w2 hown2 hb2; have HO2 := Lib.hid hown2; clear hown2)
    go_ret
    exact ⟨_, rfl, HO2.out, hb2⟩

theorem l00Own_c (A : Option Addr) (c : Nat) (L : List Int) (B : Nat) (w : World) (hR : Rd e1 1 w B A L) (hA : A = none → c = 0) (hl : L.length ≤ 1000000) :
    Calls Try.prog 78 #[.slice A L.length c] w fun e w' => ∃ v, e = .returned v ∧ Own e1 1 w' w.heap.size 2 v L ∧ Below w.heap.size w w' := by
  have hb0 := below_alloc1 w (.cells #[] 2)
  have ho : Own e1 1 (w.alloc (.cells #[] 2)) w.heap.size 2 (.slice (some ⟨w.heap.size, 0, none⟩) 0 0) ([] : List Int) := own_empty w _
  obtain ⟨i0, hi, hz0, hz1, hz2⟩ := info_parts infoInt64
  have HO := Lib.hid ho
  have HB := Lib.hid hb0
  have hR2 : 0 < L.length → Rd e1 1 (w.alloc (.cells #[] 2)) B A L := fun h0 => by
    obtain ⟨b, off, e, hbB, hc⟩ := hR h0
    subst e
    have hlt : b < w.heap.size := World.block_lt_of_cell? w _ (hc 0 h0 0 _ rfl)
    exact fun _ => ⟨b, off, rfl, hbB, fun k hk j v hv => kc hb0 (hc k hk j v hv)⟩
  have HR := Lib.hid hR2
  clear ho hb0 hR hR2
  rcases Nat.eq_zero_or_pos L.length with h0 | h0
  · obtain rfl : L = [] := List.eq_nil_of_length_eq_zero h0
    cases A with
    | none =>
      obtain rfl := hA rfl
      clear hA h0 hl HR
      go_enter Try.func78, Try.ntmps78
      go_wp2_with (at_builtin; refine wpList_append_own_none rfl _ _ 22 rfl w.heap.size 2 i0 1 Try.underlying22 hi _ _ _ rfl HO.out rfl ?_)
      go_ret
      exact ⟨_, rfl, HO.out, HB.out⟩
    | some ad =>
      clear hA h0 hl HR
      go_enter Try.func78, Try.ntmps78
      go_wp2_with (at_builtin; refine wpList_append_own _ rfl _ _ 22 rfl w.heap.size 2 i0 _ 1 8 Try.underlying22 hi hz0 hz1 hz2 rfl (by decide) _ _ _ rfl HO.out ad 0 c [] rfl rfl (fun j u hu => by simp at hu) (fun u hu => by simp at hu) (by unfold maxLen; simp) (by simp) (by simp) ?_; intro v2 w2 hown2 hg2 _; have HB2 := Lib.hid (HB.out.grown hg2 (by simp) (fun k hk => (HO.out.lt k hk).1)); have HO2 := Lib.hid hown2; clear hown2 hg2)
      go_ret
      exact ⟨_, rfl, HO2.out, HB2.out⟩
  · clear hA
    go_enter Try.func78, Try.ntmps78
    go_wp2_with (at_builtin; refine appSInt64 _ _ rfl rfl _ [] L rfl HO.out HB.out rfl (HR.out h0) h0 (by simp; omega) ?_; intro v2 w2 hown2 hb2; have HO2 := Lib.hid hown2; clear hown2)
    go_ret
    exact ⟨_, rfl, HO2.out, hb2⟩

end Go.Proofs.Ytbaffjjafkpcfaa
