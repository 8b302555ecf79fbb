/- Texts of pairs. -/
import Derived.Test.YtcdpgdpabmlpdaaDoorRdRain
import Derived.Test.YtcdpgdpabmlpdaaDoorStr3
namespace Go.Proofs.YtcdpgdpabmlpdaaDoor
open Go.RowKit

def wordL (sep : UInt8) (x : Int × Int) : List UInt8 := Lib.itoa x.1 ++ sep :: Lib.itoa x.2
theorem joinB_snoc (b : UInt8) (w : List UInt8) : ∀ (L : List (List UInt8)), L ≠ [] → joinB b (L ++ [w]) = joinB b L ++ b :: w
  | [], h => absurd rfl h
  | [a], _ => rfl
  | a :: c :: t, _ => by
    have h := joinB_snoc b w (c :: t) (by simp)
    rw [List.cons_append, List.cons_append, joinB]
    rw [List.cons_append] at h
    rw [h, joinB, List.append_assoc]; rfl
theorem pairTo_list (sep : UInt8) (L : List (Int × Int)) : ∀ k, k ≤ L.length → (pairTo sep L k).data.toList = joinB 32 ((L.take k).map (wordL sep)) := by
  intro k
  induction k with
  | zero => intro _; simp [pairTo, joinB]
  | succ k ih =>
    intro hk
    have hx := get_at (show k < L.length by omega)
    rw [List.take_add_one, hx, List.map_append]
    rcases Nat.eq_zero_or_pos k with rfl | h0
    · rw [pairTo_0 hx]
      simp [joinB, wordL, decS]
    · obtain ⟨j, rfl⟩ : ∃ j, k = j + 1 := ⟨k - 1, by omega⟩
      rw [pairTo_s hx, show (Option.some L[j + 1]).toList.map (wordL sep) = [wordL sep L[j + 1]] from rfl, joinB_snoc]
      · rw [← ih (by omega)]; simp [wordL, decS]
      · intro h
        have h2 : ((L.take (j + 1)).map (wordL sep)).length = 0 := by rw [h]; rfl
        rw [List.length_map, List.length_take] at h2
        omega
theorem sp_of_join (b : UInt8) : ∀ (L : List (List UInt8)), L ≠ [] → (∀ w ∈ L, ∀ x ∈ w, x ≠ b) → sp b (joinB b L) [] = L
  | [], h, _ => absurd rfl h
  | [a], _, h => by
    have := sp_word (b := b) a [] [] (h a (by simp))
    rw [List.append_nil] at this
    rw [joinB, this, sp]; rfl
  | a :: c :: t, _, h => by
    have ih := sp_of_join b (c :: t) (by simp) (fun w hw => h w (by simp only [List.mem_cons] at hw ⊢; exact .inr hw))
    rw [joinB, sp_word a [] _ (h a (by simp)), sp_sep, ih]; rfl
theorem itoa_num (v : Int) : (Lib.itoa v).all (fun x => !nonNum x.toNat) = true ∧ 0 < (Lib.itoa v).length := by
  rcases Int.lt_or_le v 0 with h | h
  · rw [itoa_ng h]
    refine ⟨?_, by simp⟩
    rw [List.all_cons, dig_num (dec_all _)]; rfl
  · rw [itoa_nn h]; exact ⟨dig_num (dec_all _), dec_pos _⟩
theorem num_not {w : List UInt8} (h : w.all (fun x => !nonNum x.toNat) = true) {b : UInt8} (hb : nonNum b.toNat = true) : ∀ x ∈ w, x ≠ b := fun x hx e => by
  have := List.all_eq_true.1 h x hx
  rw [e, hb] at this; cases this
def prs : List Int → List (Int × Int)
  | a :: b :: t => (a, b) :: prs t
  | _ => []
def flat (L : List (Int × Int)) : List Int := L.flatMap (fun x => [x.1, x.2])
theorem prs_flat : ∀ L, prs (flat L) = L
  | [] => rfl
  | x :: t => by
    have h : flat (x :: t) = x.1 :: x.2 :: flat t := rfl
    rw [h, prs, prs_flat t]
theorem fl_pairs {sep : UInt8} (hsep : nonNum sep.toNat = true) : ∀ (L : List (Int × Int)), fl (fun c => nonNum c.toNat) (joinB 32 (L.map (wordL sep))) none = L.flatMap (fun x => [Lib.itoa x.1, Lib.itoa x.2])
  | [] => rfl
  | [x] => by
    rw [List.map_cons, List.map_nil, joinB, wordL, fl_word _ (itoa_num _).2 (itoa_num _).1, fl_sep hsep]
    have := fl_word (p := fun c => nonNum c.toNat) (w := Lib.itoa x.2) [] (itoa_num _).2 (itoa_num _).1
    rw [List.append_nil] at this
    rw [this, fl]; rfl
  | x :: y :: t => by
    have ih := fl_pairs hsep (y :: t)
    rw [List.map_cons] at ih
    rw [List.map_cons, List.map_cons, joinB, wordL, List.append_assoc, fl_word _ (itoa_num _).2 (itoa_num _).1, List.cons_append, fl_sep hsep, fl_word _ (itoa_num _).2 (itoa_num _).1, fl_sep (by decide), ih]
    rfl
/-- a pair as the reference reads it -/
def pairW (sep : UInt8) (s : ByteArray) : Option (Int × Int) := match ptAll sep s with
  | [A, B] => if rdB A = true ∧ rdB B = true then some (rdI A, rdI B) else none
  | _ => none
theorem pairW_two {sep : UInt8} {s A B : ByteArray} (h : ptAll sep s = [A, B]) : pairW sep s = if rdB A = true ∧ rdB B = true then some (rdI A, rdI B) else none := by rw [pairW, h]
theorem pairW_not {sep : UInt8} {s : ByteArray} (h : (ptAll sep s).length ≠ 2) : pairW sep s = none := by
  unfold pairW
  split
  · rename_i hP; rw [hP] at h; exact absurd rfl h
  · rfl
theorem pairW_text {sep : UInt8} {s : ByteArray} {x : Int × Int} (h : pairW sep s = some x) : wordL sep x = s.data.toList := by
  by_cases hP : (ptAll sep s).length = 2
  · obtain ⟨A, B, hPP⟩ : ∃ A B, ptAll sep s = [A, B] := by
      match h : ptAll sep s, hP with
      | [A, B], _ => exact ⟨A, B, rfl⟩
    rw [pairW_two hPP] at h
    split at h
    · rename_i hc
      injection h with h
      subst h
      have hj := sp_join sep s.data.toList []
      rw [← pt_sp, hPP] at hj
      simp only [List.map_cons, List.map_nil, joinB, List.nil_append] at hj
      rw [wordL, rd_back hc.1, rd_back hc.2]; exact hj
    · cases h
  · rw [pairW_not hP] at h; cases h
theorem text_pairW {sep : UInt8} (hsep : nonNum sep.toNat = true) {s : ByteArray} {x : Int × Int} (h1 : x.1.natAbs < 10 ^ 18) (h2 : x.2.natAbs < 10 ^ 18) (h : wordL sep x = s.data.toList) : pairW sep s = some x := by
  have hsp : (ptAll sep s).map (fun x => x.data.toList) = [Lib.itoa x.1, Lib.itoa x.2] := by
    rw [pt_sp, ← h, wordL, sp_word _ _ _ (num_not (itoa_num _).1 hsep), sp_sep]
    have := sp_word (b := sep) (Lib.itoa x.2) [] [] (num_not (itoa_num _).1 hsep)
    rw [List.append_nil] at this
    rw [this, sp]; rfl
  obtain ⟨A, B, hPP, hA, hB⟩ := two_of hsp
  have ha := num_itoa h1
  have hb := num_itoa h2
  rw [← hA] at ha
  rw [← hB] at hb
  rw [pairW_two hPP, if_pos ⟨(rd_of ha).1, (rd_of hb).1⟩, (rd_of ha).2, (rd_of hb).2]
def pairG (sep : UInt8) (s : ByteArray) : Int × Int := (pairW sep s).getD (0, 0)
def pairsOk (sep : UInt8) (W : List ByteArray) : Bool := W.all (fun x => (pairW sep x).isSome)
/-- the pairs as the reference reads them -/
def lpO (ok : List (Int × Int) → Bool) (sep : UInt8) (s : ByteArray) : Option (List (Int × Int)) :=
  if pairsOk sep (ptAll 32 s) = true ∧ ok ((ptAll 32 s).map (pairG sep)) = true then some ((ptAll 32 s).map (pairG sep)) else none
/-- the pairs as the program reads them -/
def rpO (ok : List (Int × Int) → Bool) (sep : UInt8) (s : ByteArray) : Option (List (Int × Int)) :=
  if ok (prs (numsB s)) = true ∧ joinB 32 ((prs (numsB s)).map (wordL sep)) = s.data.toList then some (prs (numsB s)) else none
theorem words_text {sep : UInt8} : ∀ (W : List ByteArray), pairsOk sep W = true → (W.map (pairG sep)).map (wordL sep) = W.map (fun x => x.data.toList)
  | [], _ => rfl
  | x :: W, h => by
    simp only [pairsOk, List.all_cons, Bool.and_eq_true] at h
    cases hx : pairW sep x with
    | none => rw [hx] at h; cases h.1
    | some p =>
      have hg : pairG sep x = p := by rw [pairG, hx]; rfl
      rw [List.map_cons, List.map_cons, List.map_cons, hg, pairW_text hx, words_text W h.2]
theorem lpO_text {ok : List (Int × Int) → Bool} {sep : UInt8} {s : ByteArray} {L : List (Int × Int)} (h : lpO ok sep s = some L) : ok L = true ∧ joinB 32 (L.map (wordL sep)) = s.data.toList := by
  unfold lpO at h
  split at h
  · rename_i hc
    injection h with h
    rw [← h]
    refine ⟨hc.2, ?_⟩
    rw [words_text _ hc.1, pt_sp]
    exact sp_join 32 s.data.toList []
  · cases h
theorem rpO_text {ok : List (Int × Int) → Bool} {sep : UInt8} {s : ByteArray} {L : List (Int × Int)} (h : rpO ok sep s = some L) : ok L = true ∧ joinB 32 (L.map (wordL sep)) = s.data.toList := by
  unfold rpO at h
  split at h
  · rename_i hc
    injection h with h
    rw [← h]; exact hc
  · cases h
def Sm (v : Int) : Prop := v.natAbs < 10 ^ 18
theorem words_back {sep : UInt8} (hsep : nonNum sep.toNat = true) : ∀ (W : List ByteArray) (L : List (Int × Int)), W.map (fun x => x.data.toList) = L.map (wordL sep) → (∀ x ∈ L, Sm x.1 ∧ Sm x.2) → pairsOk sep W = true ∧ W.map (pairG sep) = L
  | [], [], _, _ => ⟨rfl, rfl⟩
  | [], _ :: _, h, _ => by simp at h
  | _ :: _, [], h, _ => by simp at h
  | w :: W, x :: L, h, hb => by
    simp only [List.map_cons, List.cons.injEq] at h
    obtain ⟨b1, b2⟩ := hb x (by simp)
    have hp := text_pairW hsep b1 b2 h.1.symm
    obtain ⟨i1, i2⟩ := words_back hsep W L h.2 (fun y hy => hb y (by simp [hy]))
    refine ⟨?_, ?_⟩
    · unfold pairsOk at i1 ⊢
      rw [List.all_cons, hp, i1]; rfl
    · rw [List.map_cons, i2, pairG, hp]; rfl
theorem word_chars {sep : UInt8} {x : Int × Int} {c : UInt8} (h : c ∈ wordL sep x) : c = sep ∨ nonNum c.toNat = false := by
  rw [wordL, List.mem_append, List.mem_cons] at h
  rcases h with h | h | h
  · have := List.all_eq_true.1 (itoa_num x.1).1 c h; exact .inr (by simpa using this)
  · exact .inl h
  · have := List.all_eq_true.1 (itoa_num x.2).1 c h; exact .inr (by simpa using this)
theorem text_lpO {ok : List (Int × Int) → Bool} {sep : UInt8} (hsep : nonNum sep.toNat = true) (h32 : sep ≠ 32) {s : ByteArray} {L : List (Int × Int)} (hne : L ≠ []) (hb : ∀ x ∈ L, Sm x.1 ∧ Sm x.2) (hok : ok L = true) (ht : joinB 32 (L.map (wordL sep)) = s.data.toList) : lpO ok sep s = some L := by
  have hW : (ptAll 32 s).map (fun x => x.data.toList) = L.map (wordL sep) := by
    rw [pt_sp, ← ht]
    refine sp_of_join 32 _ (by simpa using hne) ?_
    intro w hw c hc
    obtain ⟨x, _, rfl⟩ := List.mem_map.1 hw
    rcases word_chars hc with rfl | h
    · exact h32
    · intro e; rw [e] at h; exact absurd h (by decide)
  obtain ⟨h1, h2⟩ := words_back hsep _ L hW hb
  unfold lpO
  rw [h2, if_pos ⟨h1, hok⟩]
theorem nums_back : ∀ (F : List ByteArray) (N : List Int), F.map (fun x => x.data.toList) = N.map Lib.itoa → (∀ v ∈ N, Sm v) → F.all rdB = true ∧ F.map rdI = N
  | [], [], _, _ => ⟨rfl, rfl⟩
  | [], _ :: _, h, _ => by simp at h
  | _ :: _, [], h, _ => by simp at h
  | w :: W, x :: N, h, hb => by
    simp only [List.map_cons, List.cons.injEq] at h
    have hn := num_itoa (hb x (by simp))
    rw [← h.1] at hn
    obtain ⟨i1, i2⟩ := nums_back W N h.2 (fun y hy => hb y (by simp [hy]))
    exact ⟨by rw [List.all_cons, (rd_of hn).1, i1]; rfl, by rw [List.map_cons, i2, (rd_of hn).2]⟩
theorem flat_map (L : List (Int × Int)) : L.flatMap (fun x => [Lib.itoa x.1, Lib.itoa x.2]) = (flat L).map Lib.itoa := by
  induction L with
  | nil => rfl
  | cons x L ih => simp [flat, List.flatMap_cons] at ih ⊢; exact ih
theorem num_small {c : UInt8} (h : nonNum c.toNat = false) : c.toNat < 128 := by
  simp only [nonNum, decide_eq_false_iff_not] at h
  omega
theorem join_small {sep : UInt8} (hs : sep.toNat < 128) : ∀ (L : List (Int × Int)), ∀ c ∈ joinB 32 (L.map (wordL sep)), c.toNat < 128
  | [], c, h => by simp [joinB] at h
  | [x], c, h => by
    rw [List.map_cons, List.map_nil, joinB] at h
    rcases word_chars h with rfl | h
    · exact hs
    · exact num_small h
  | x :: y :: t, c, h => by
    rw [List.map_cons, List.map_cons, joinB, List.mem_append, List.mem_cons] at h
    rcases h with h | rfl | h
    · rcases word_chars h with rfl | h
      · exact hs
      · exact num_small h
    · decide
    · exact join_small hs (y :: t) c (by rw [List.map_cons]; exact h)
theorem text_rpO {ok : List (Int × Int) → Bool} {sep : UInt8} (hsep : nonNum sep.toNat = true) (hs : sep.toNat < 128) {s : ByteArray} {L : List (Int × Int)} (hb : ∀ x ∈ L, Sm x.1 ∧ Sm x.2) (hok : ok L = true) (ht : joinB 32 (L.map (wordL sep)) = s.data.toList) : rpO ok sep s = some L := by
  have hf := goFields_ascii nonNum s (by rw [← ht]; exact join_small hs L)
  rw [← ht, fl_pairs hsep, flat_map] at hf
  obtain ⟨h1, h2⟩ := nums_back (fldB s) (flat L) hf (by
    intro v hv
    obtain ⟨x, hx, hv⟩ := List.mem_flatMap.1 hv
    have := hb x hx
    simp at hv
    rcases hv with rfl | rfl
    · exact this.1
    · exact this.2)
  have hn : numsB s = flat L := by rw [numsB, if_pos h1, h2]
  unfold rpO
  rw [hn, prs_flat, if_pos ⟨hok, ht⟩]
theorem pair_same {ok : List (Int × Int) → Bool} {sep : UInt8} (hsep : nonNum sep.toNat = true) (hs : sep.toNat < 128) (h32 : sep ≠ 32) (hok : ∀ L, ok L = true → L ≠ [] ∧ ∀ x ∈ L, Sm x.1 ∧ Sm x.2) (s : ByteArray) : rpO ok sep s = lpO ok sep s := by
  cases h : lpO ok sep s with
  | some L => obtain ⟨h1, h2⟩ := lpO_text h; exact text_rpO hsep hs (hok L h1).2 h1 h2
  | none =>
    cases h2 : rpO ok sep s with
    | none => rfl
    | some L => obtain ⟨h3, h4⟩ := rpO_text h2; rw [text_lpO hsep h32 (hok L h3).1 (hok L h3).2 h3 h4] at h; cases h

end Go.Proofs.YtcdpgdpabmlpdaaDoor
