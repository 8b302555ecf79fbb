/- ReadMill, plainly. -/
import Derived.Test.YtcdpgdpabmlpdaaDoorRdPair
import Derived.Test.YtcdpgdpabmlpdaaDoorStr2
import Derived.Lib.Replace
namespace Go.Proofs.YtcdpgdpabmlpdaaDoor
open Go.RowKit

def liftW : List UInt8 := [108, 105, 102, 116]
def rateW : List UInt8 := [114, 97, 116, 101]
def windW : List UInt8 := [119, 105, 110, 100]
def millWs (m : Int × Int × Int × Int) : List (List UInt8) := [liftW, Lib.itoa m.1, rateW, Lib.itoa m.2.1, windW, Lib.itoa m.2.2.1 ++ 45 :: Lib.itoa m.2.2.2]
def millL (m : Int × Int × Int × Int) : List UInt8 := joinB 32 (millWs m)
theorem millS_list (m : Int × Int × Int × Int) : (millS m).data.toList = millL m := by
  simp [millS, millL, millWs, joinB, decS, liftW, rateW, windW]
/-! ### strings.ReplaceAll at single bytes -/
def swapB (a b c : UInt8) : UInt8 := if c = a then b else c
theorem repK (a b : UInt8) : ∀ l : List UInt8, Lib.replaceK [a] [b] (Lib.count l [a]) l = l.map (swapB a b)
  | [] => by rw [Lib.count_one]; rfl
  | x :: r => by
    have ih := repK a b r
    by_cases hx : x = a
    · subst hx
      have h0 : Lib.index (x :: r) [x] = ((0 : Nat) : Int) := by rw [Lib.index_one, Lib.indexByte]; simp
      rw [Lib.count_cons_eq, Nat.add_comm, Lib.replaceK_hit _ _ _ _ 0 h0]
      show [] ++ [b] ++ Lib.replaceK [x] [b] (Lib.count r [x]) r = _
      rw [ih, List.map_cons, swapB, if_pos rfl]; rfl
    · rw [Lib.count_cons_ne _ _ _ hx, List.map_cons, swapB, if_neg hx]
      cases hk : Lib.count r [a] with
      | zero =>
        rw [hk, Lib.replaceK] at ih
        rw [Lib.replaceK, ← ih]
      | succ k =>
        obtain ⟨i, hi⟩ := Lib.index_of_count (s := r) (old := [a]) (by omega)
        have h1 : Lib.index (x :: r) [a] = ((i + 1 : Nat) : Int) := by
          rw [Lib.index_one] at hi ⊢
          rw [Lib.indexByte, hi]
          have hne : (x == a) = false := by simpa using hx
          simp only [hne]
          simp
        rw [Lib.replaceK_hit _ _ _ _ _ h1]
        rw [hk, Lib.replaceK_hit _ _ _ _ _ hi] at ih
        rw [← ih]
        simp
theorem repAll {a b : UInt8} (h : a ≠ b) (l : List UInt8) : Lib.replaceAll l [a] [b] = l.map (swapB a b) := by
  unfold Lib.replaceAll Lib.replace
  have hne : ([a] == [b]) = false := by simpa using h
  rw [if_neg (by rw [hne]; exact Bool.false_ne_true), Lib.replaceNum, if_pos (Or.inl (by omega))]
  exact repK a b l
def repB (s : ByteArray) : ByteArray := ⟨(Lib.replaceAll s.data.toList [45] [32]).toArray⟩
theorem repB_list (s : ByteArray) : (repB s).data.toList = s.data.toList.map (swapB 45 32) := by
  rw [repB, repAll (by decide)]
theorem repB_size (s : ByteArray) : (repB s).size = s.size := by rw [Lib.size_eq, repB_list, List.length_map, ← Lib.size_eq]
/-! ### the reference -/
def lmC (a0 a1 a2 a3 a4 P R : ByteArray) : Prop := a0.data.toList = liftW ∧ a2.data.toList = rateW ∧ a4.data.toList = windW ∧ rdB a1 = true ∧ rdB a3 = true ∧ rdB P = true ∧ rdB R = true ∧ millOk (rdI a1, rdI a3, rdI P, rdI R) = true
instance (a0 a1 a2 a3 a4 P R : ByteArray) : Decidable (lmC a0 a1 a2 a3 a4 P R) := by unfold lmC; exact inferInstance
def lm6 (a0 a1 a2 a3 a4 a5 : ByteArray) : Option (Int × Int × Int × Int) := match ptAll 45 a5 with
  | [P, R] => if lmC a0 a1 a2 a3 a4 P R then some (rdI a1, rdI a3, rdI P, rdI R) else none
  | _ => none
theorem lm6_two {a0 a1 a2 a3 a4 a5 P R : ByteArray} (h : ptAll 45 a5 = [P, R]) : lm6 a0 a1 a2 a3 a4 a5 = if lmC a0 a1 a2 a3 a4 P R then some (rdI a1, rdI a3, rdI P, rdI R) else none := by rw [lm6, h]
theorem lm6_not {a0 a1 a2 a3 a4 a5 : ByteArray} (h : (ptAll 45 a5).length ≠ 2) : lm6 a0 a1 a2 a3 a4 a5 = none := by
  unfold lm6
  split
  · rename_i hP; rw [hP] at h; exact absurd rfl h
  · rfl
theorem lm6_some {a0 a1 a2 a3 a4 a5 : ByteArray} {m : Int × Int × Int × Int} (h : lm6 a0 a1 a2 a3 a4 a5 = some m) : ∃ P R, ptAll 45 a5 = [P, R] ∧ lmC a0 a1 a2 a3 a4 P R ∧ m = (rdI a1, rdI a3, rdI P, rdI R) := by
  by_cases hP : (ptAll 45 a5).length = 2
  · obtain ⟨P, R, hPP⟩ : ∃ P R, ptAll 45 a5 = [P, R] := by
      match h : ptAll 45 a5, hP with
      | [P, R], _ => exact ⟨P, R, rfl⟩
    rw [lm6_two hPP] at h
    split at h
    · rename_i hc
      exact ⟨P, R, hPP, hc, (Option.some.inj h).symm⟩
    · cases h
  · rw [lm6_not hP] at h; cases h
def lmO (s : ByteArray) : Option (Int × Int × Int × Int) := match ptAll 32 s with
  | [a0, a1, a2, a3, a4, a5] => lm6 a0 a1 a2 a3 a4 a5
  | _ => none
theorem lmO_six {s a0 a1 a2 a3 a4 a5 : ByteArray} (h : ptAll 32 s = [a0, a1, a2, a3, a4, a5]) : lmO s = lm6 a0 a1 a2 a3 a4 a5 := by rw [lmO, h]
theorem lmO_not {s : ByteArray} (h : (ptAll 32 s).length ≠ 6) : lmO s = none := by
  unfold lmO
  split
  · rename_i hP; rw [hP] at h; exact absurd rfl h
  · rfl
theorem six_len {L : List ByteArray} (h : L.length = 6) : ∃ a0 a1 a2 a3 a4 a5, L = [a0, a1, a2, a3, a4, a5] := by
  match L, h with
  | [a0, a1, a2, a3, a4, a5], _ => exact ⟨a0, a1, a2, a3, a4, a5, rfl⟩
theorem lmO_text {s : ByteArray} {m : Int × Int × Int × Int} (h : lmO s = some m) : millOk m = true ∧ millL m = s.data.toList := by
  by_cases hP : (ptAll 32 s).length = 6
  · obtain ⟨a0, a1, a2, a3, a4, a5, h6⟩ := six_len hP
    rw [lmO_six h6] at h
    obtain ⟨P, R, hPP, ⟨c0, c2, c4, e1, e3, eP, eR, hok⟩, rfl⟩ := lm6_some h
    refine ⟨hok, ?_⟩
    have hj := sp_join 32 s.data.toList []
    rw [← pt_sp, h6] at hj
    have hj5 := sp_join 45 a5.data.toList []
    rw [← pt_sp, hPP] at hj5
    simp only [List.map_cons, List.map_nil, joinB, List.nil_append] at hj hj5
    rw [millL, millWs]
    simp only [joinB]
    rw [rd_back e1, rd_back e3, rd_back eP, rd_back eR, ← c0, ← c2, ← c4, hj5]
    exact hj
  · rw [lmO_not hP] at h; cases h
theorem six_of {L : List ByteArray} {b0 b1 b2 b3 b4 b5 : List UInt8} (h : L.map (fun x => x.data.toList) = [b0, b1, b2, b3, b4, b5]) : ∃ a0 a1 a2 a3 a4 a5, L = [a0, a1, a2, a3, a4, a5] ∧ a0.data.toList = b0 ∧ a1.data.toList = b1 ∧ a2.data.toList = b2 ∧ a3.data.toList = b3 ∧ a4.data.toList = b4 ∧ a5.data.toList = b5 := by
  obtain ⟨a0, a1, a2, a3, a4, a5, rfl⟩ := six_len (L := L) (by have := congrArg List.length h; simpa using this)
  simp at h
  exact ⟨a0, a1, a2, a3, a4, a5, rfl, h.1, h.2.1, h.2.2.1, h.2.2.2.1, h.2.2.2.2.1, h.2.2.2.2.2⟩
theorem dig_of {v : Int} (h : 0 ≤ v) {b : UInt8} (hb : digC b = false) : ∀ x ∈ Lib.itoa v, x ≠ b := dig_not (itoa_dig h).1 hb
theorem text_lmO {s : ByteArray} {m : Int × Int × Int × Int} (hok : millOk m = true) (ht : millL m = s.data.toList) : lmO s = some m := by
  have hb := millOk_iff.1 hok
  have hsp : (ptAll 32 s).map (fun x => x.data.toList) = millWs m := by
    rw [pt_sp, ← ht, millL]
    refine sp_of_join 32 _ (by simp [millWs]) ?_
    intro w hw x hx
    simp only [millWs, List.mem_cons, List.not_mem_nil, or_false] at hw
    rcases hw with rfl | rfl | rfl | rfl | rfl | rfl
    · intro e; subst e; revert hx; decide
    · exact dig_of (by omega) (by decide) x hx
    · intro e; subst e; revert hx; decide
    · exact dig_of (by omega) (by decide) x hx
    · intro e; subst e; revert hx; decide
    · rw [List.mem_append, List.mem_cons] at hx
      rcases hx with hx | hx | hx
      · exact dig_of (by omega) (by decide) x hx
      · rw [hx]; decide
      · exact dig_of (by omega) (by decide) x hx
  obtain ⟨a0, a1, a2, a3, a4, a5, h6, c0, c1, c2, c3, c4, c5⟩ := six_of (by rw [hsp]; rfl)
  have hsp5 : (ptAll 45 a5).map (fun x => x.data.toList) = [Lib.itoa m.2.2.1, Lib.itoa m.2.2.2] := by
    rw [pt_sp, c5, sp_word _ _ _ (dig_of (by omega) (by decide)), sp_sep]
    have := sp_word (b := 45) (Lib.itoa m.2.2.2) [] [] (dig_of (by omega) (by decide))
    rw [List.append_nil] at this
    rw [this, sp]; rfl
  obtain ⟨P, R, hPP, hP, hR⟩ := two_of hsp5
  have n1 := num_itoa (v := m.1) (by omega)
  have n3 := num_itoa (v := m.2.1) (by omega)
  have nP := num_itoa (v := m.2.2.1) (by omega)
  have nR := num_itoa (v := m.2.2.2) (by omega)
  rw [← c1] at n1
  rw [← c3] at n3
  rw [← hP] at nP
  rw [← hR] at nR
  have e : (rdI a1, rdI a3, rdI P, rdI R) = m := by rw [(rd_of n1).2, (rd_of n3).2, (rd_of nP).2, (rd_of nR).2]
  rw [lmO_six h6, lm6_two hPP, if_pos ⟨c0, c2, c4, (rd_of n1).1, (rd_of n3).1, (rd_of nP).1, (rd_of nR).1, by rw [e]; exact hok⟩, e]
/-! ### the program -/
def rm4 (a b c d : Int) (s : ByteArray) : Option (Int × Int × Int × Int) := if millOk (a, b, c, d) = true ∧ (millS (a, b, c, d)).data.toList = s.data.toList then some (a, b, c, d) else none
def rmO (s : ByteArray) : Option (Int × Int × Int × Int) := match numsB (repB s) with
  | [a, b, c, d] => rm4 a b c d s
  | _ => none
theorem rmO_four {s : ByteArray} {a b c d : Int} (h : numsB (repB s) = [a, b, c, d]) : rmO s = rm4 a b c d s := by rw [rmO, h]
theorem rmO_not {s : ByteArray} (h : (numsB (repB s)).length ≠ 4) : rmO s = none := by
  unfold rmO
  split
  · rename_i hP; rw [hP] at h; exact absurd rfl h
  · rfl
theorem four_len {L : List Int} (h : L.length = 4) : ∃ a b c d, L = [a, b, c, d] := by
  match L, h with
  | [a, b, c, d], _ => exact ⟨a, b, c, d, rfl⟩
theorem rmO_text {s : ByteArray} {m : Int × Int × Int × Int} (h : rmO s = some m) : millOk m = true ∧ millL m = s.data.toList := by
  by_cases hP : (numsB (repB s)).length = 4
  · obtain ⟨a, b, c, d, h4⟩ := four_len hP
    rw [rmO_four h4, rm4] at h
    split at h
    · rename_i hc
      have e := Option.some.inj h
      rw [e, millS_list] at hc
      exact hc
    · cases h
  · rw [rmO_not hP] at h; cases h
theorem swap_dig {w : List UInt8} (h : w.all digC = true) : w.map (swapB 45 32) = w := by
  have : ∀ x ∈ w, swapB 45 32 x = id x := fun x hx => by
    rw [swapB, if_neg (dig_not h (by decide) x hx)]; rfl
  rw [List.map_congr_left this, List.map_id]
def millN (m : Int × Int × Int × Int) : List UInt8 := liftW ++ 32 :: (Lib.itoa m.1 ++ 32 :: (rateW ++ 32 :: (Lib.itoa m.2.1 ++ 32 :: (windW ++ 32 :: (Lib.itoa m.2.2.1 ++ 32 :: Lib.itoa m.2.2.2)))))
theorem millN_of {m : Int × Int × Int × Int} (hok : millOk m = true) : (millL m).map (swapB 45 32) = millN m := by
  have hb := millOk_iff.1 hok
  have w1 := swap_dig (itoa_dig (v := m.1) (by omega)).1
  have w2 := swap_dig (itoa_dig (v := m.2.1) (by omega)).1
  have w3 := swap_dig (itoa_dig (v := m.2.2.1) (by omega)).1
  have w4 := swap_dig (itoa_dig (v := m.2.2.2) (by omega)).1
  have s32 : swapB 45 32 32 = 32 := by decide
  have s45 : swapB 45 32 45 = 32 := by decide
  have l1 : liftW.map (swapB 45 32) = liftW := by decide
  have l2 : rateW.map (swapB 45 32) = rateW := by decide
  have l3 : windW.map (swapB 45 32) = windW := by decide
  simp only [millL, millWs, joinB, millN, List.map_append, List.map_cons, w1, w2, w3, w4, s32, s45, l1, l2, l3]
theorem fl_skip {p : UInt8 → Bool} {r : List UInt8} : ∀ (w : List UInt8), w.all p = true → fl p (w ++ r) none = fl p r none
  | [], _ => rfl
  | x :: w, h => by
    simp only [List.all_cons, Bool.and_eq_true] at h
    rw [List.cons_append, fl_sep0 h.1, fl_skip w h.2]
theorem fl_millN {m : Int × Int × Int × Int} : fl (fun c => nonNum c.toNat) (millN m) none = [Lib.itoa m.1, Lib.itoa m.2.1, Lib.itoa m.2.2.1, Lib.itoa m.2.2.2] := by
  have n32 : (fun c : UInt8 => nonNum c.toNat) 32 = true := by decide
  have e := fl_word (p := fun c => nonNum c.toNat) (w := Lib.itoa m.2.2.2) [] (itoa_num _).2 (itoa_num _).1
  rw [List.append_nil] at e
  rw [millN, fl_skip _ (by decide), fl_sep0 n32, fl_word _ (itoa_num _).2 (itoa_num _).1, fl_sep n32, fl_skip _ (by decide), fl_sep0 n32, fl_word _ (itoa_num _).2 (itoa_num _).1, fl_sep n32, fl_skip _ (by decide), fl_sep0 n32, fl_word _ (itoa_num _).2 (itoa_num _).1, fl_sep n32, e, fl]
theorem itoa_small {v : Int} : ∀ c ∈ Lib.itoa v, c.toNat < 128 := fun c hc => num_small (by have := List.all_eq_true.1 (itoa_num v).1 c hc; simpa using this)
theorem millN_small (m : Int × Int × Int × Int) : ∀ c ∈ millN m, c.toNat < 128 := by
  intro c hc
  simp only [millN, List.mem_append, List.mem_cons] at hc
  have hl : ∀ c ∈ liftW, c.toNat < 128 := by decide
  have hr : ∀ c ∈ rateW, c.toNat < 128 := by decide
  have hw : ∀ c ∈ windW, c.toNat < 128 := by decide
  rcases hc with h | h | h | h | h | h | h | h | h | h | h | h | h
  · exact hl c h
  · rw [h]; decide
  · exact itoa_small c h
  · rw [h]; decide
  · exact hr c h
  · rw [h]; decide
  · exact itoa_small c h
  · rw [h]; decide
  · exact hw c h
  · rw [h]; decide
  · exact itoa_small c h
  · rw [h]; decide
  · exact itoa_small c h
theorem text_rmO {s : ByteArray} {m : Int × Int × Int × Int} (hok : millOk m = true) (ht : millL m = s.data.toList) : rmO s = some m := by
  have hb := millOk_iff.1 hok
  have hl : (repB s).data.toList = millN m := by rw [repB_list, ← ht, millN_of hok]
  have hf := goFields_ascii nonNum (repB s) (by rw [hl]; exact millN_small m)
  rw [hl, fl_millN] at hf
  obtain ⟨h1, h2⟩ := nums_back (fldB (repB s)) [m.1, m.2.1, m.2.2.1, m.2.2.2] hf (by
    intro v hv
    unfold Sm
    simp only [List.mem_cons, List.not_mem_nil, or_false] at hv
    rcases hv with rfl | rfl | rfl | rfl <;> omega)
  have hn : numsB (repB s) = [m.1, m.2.1, m.2.2.1, m.2.2.2] := by rw [numsB, if_pos h1, h2]
  rw [rmO_four hn, rm4, if_pos ⟨hok, by rw [millS_list]; exact ht⟩]
theorem mill_same (s : ByteArray) : rmO s = lmO s := by
  cases h : lmO s with
  | some m => obtain ⟨h1, h2⟩ := lmO_text h; exact text_rmO h1 h2
  | none =>
    cases h2 : rmO s with
    | none => rfl
    | some m => obtain ⟨h3, h4⟩ := rmO_text h2; rw [text_lmO h3 h4] at h; cases h
def optM (o : Option (Int × Int × Int × Int)) : Int × Int × Int × Int := o.getD (0, 0, 0, 0)
def optMB (o : Option (Int × Int × Int × Int)) : Bool := o.isSome

end Go.Proofs.YtcdpgdpabmlpdaaDoor
