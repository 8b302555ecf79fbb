/- Texts as lists of bytes: numerals, fields, parts. -/
import Derived.Test.YtcdpgdpabmlpdaaDoorStr
import Derived.Lib.FieldsP
import Derived.Lib.ParseIntBTie
import Derived.Lib.ItoaNum
import Derived.Lib.Strings
import Derived.Laws.RangeString
namespace Go.Proofs.YtcdpgdpabmlpdaaDoor
open Go.RowKit

/-! ### Numerals -/
def digC (c : UInt8) : Bool := decide (48 ≤ c.toNat ∧ c.toNat ≤ 57)
/-- what digits spell behind a number -/
def dstep (a : Nat) (c : UInt8) : Nat := a * 10 + (c.toNat - 48)
def spell (acc : Nat) (l : List UInt8) : Nat := l.foldl dstep acc
theorem spell_nil (acc : Nat) : spell acc [] = acc := List.foldl_nil
theorem spell_cons (acc : Nat) (c : UInt8) (r : List UInt8) : spell acc (c :: r) = spell (acc * 10 + (c.toNat - 48)) r := List.foldl_cons ..
theorem spell_ge (l : List UInt8) : ∀ acc, acc ≤ spell acc l := by
  induction l with
  | nil => intro acc; exact Nat.le_refl _
  | cons c r ih =>
    intro acc
    rw [spell_cons]
    exact Nat.le_trans (by omega) (ih _)
theorem spell_append (l m : List UInt8) : ∀ (acc : Nat), spell acc (l ++ m) = spell (spell acc l) m := by
  induction l with
  | nil => intro _; rfl
  | cons c r ih => intro acc; rw [List.cons_append, spell_cons, spell_cons, ih]
theorem digC_ofNat {r : Nat} (h : r < 10) : digC (UInt8.ofNat (48 + r)) = true := by
  have e : (UInt8.ofNat (48 + r)).toNat = 48 + r := by
    rw [UInt8.toNat_ofNat']; omega
  simp only [digC, e]; exact decide_eq_true ⟨by omega, by omega⟩
theorem toNat_ofNat {r : Nat} (h : r < 10) : (UInt8.ofNat (48 + r)).toNat = 48 + r := by
  rw [UInt8.toNat_ofNat']; omega
theorem dec_small {u : Nat} (h : u < 10) : Lib.decDigits u = [UInt8.ofNat (48 + u)] := by rw [Lib.decDigits, dif_pos h]
theorem dec_big {u : Nat} (h : ¬ u < 10) : Lib.decDigits u = Lib.decDigits (u / 10) ++ [UInt8.ofNat (48 + u % 10)] := by rw [Lib.decDigits, dif_neg h]
theorem dec_all (u : Nat) : (Lib.decDigits u).all digC = true := by
  induction u using Nat.strongRecOn with
  | _ u ih =>
    by_cases h : u < 10
    · rw [dec_small h]; simp only [List.all_cons, List.all_nil, Bool.and_true]; exact digC_ofNat h
    · rw [dec_big h, List.all_append, ih (u / 10) (by omega)]
      simp only [List.all_cons, List.all_nil, Bool.and_true, Bool.true_and]; exact digC_ofNat (by omega)
theorem dec_spell (u : Nat) : spell 0 (Lib.decDigits u) = u := by
  induction u using Nat.strongRecOn with
  | _ u ih =>
    by_cases h : u < 10
    · rw [dec_small h, spell_cons, toNat_ofNat h, spell_nil]; omega
    · rw [dec_big h, spell_append, ih (u / 10) (by omega), spell_cons, toNat_ofNat (show u % 10 < 10 by omega), spell_nil]; omega
theorem dec_pos (u : Nat) : 0 < (Lib.decDigits u).length := by
  by_cases h : u < 10
  · rw [dec_small h]; exact Nat.zero_lt_one
  · rw [dec_big h]; simp
theorem dec_len {u k : Nat} (h : 1 ≤ k) : (Lib.decDigits u).length ≤ k ↔ u < 10 ^ k := by
  induction k generalizing u with
  | zero => omega
  | succ k ih =>
    by_cases hu : u < 10
    · rw [dec_small hu]
      have : 10 ≤ 10 ^ (k + 1) := by
        have := Nat.one_le_pow k 10 (by omega)
        rw [Nat.pow_succ]; omega
      constructor
      · intro _; omega
      · intro _; simp
    · rw [dec_big hu, List.length_append, List.length_singleton, Nat.pow_succ]
      rcases Nat.eq_zero_or_pos k with rfl | hk
      · have := dec_pos (u / 10)
        constructor
        · intro h; omega
        · intro h; omega
      · have := ih (u := u / 10) hk
        constructor
        · intro h; have := this.1 (by omega); omega
        · intro h; have := this.2 (by omega); omega
theorem parse_digits (l : List UInt8) : ∀ (acc : Nat), l.all digC = true → spell acc l < 18446744073709551616 → Lib.parseUint10 acc l = .ok (spell acc l) := by
  induction l with
  | nil => intro acc _ _; rfl
  | cons c r ih =>
    intro acc h hb
    simp only [List.all_cons, Bool.and_eq_true, digC, decide_eq_true_eq] at h
    rw [spell_cons] at hb
    have hg := spell_ge r (acc * 10 + (c.toNat - 48))
    rw [Lib.parseUint10, if_pos h.1, if_neg (by omega), if_neg (by omega), spell_cons]
    exact ih _ h.2 hb
theorem itoa_nn {v : Int} (h : 0 ≤ v) : Lib.itoa v = Lib.decDigits v.toNat := by rw [Lib.itoa, if_neg (by omega)]
theorem itoa_ng {v : Int} (h : v < 0) : Lib.itoa v = 45 :: Lib.decDigits v.natAbs := by rw [Lib.itoa, if_pos h]
theorem dec_head (u : Nat) : ∃ c r, Lib.decDigits u = c :: r ∧ digC c = true := by
  have h0 := dec_pos u
  have h1 := dec_all u
  cases h : Lib.decDigits u with
  | nil => rw [h] at h0; exact absurd h0 (by simp)
  | cons c r => rw [h] at h1; simp only [List.all_cons, Bool.and_eq_true] at h1; exact ⟨c, r, rfl, h1.1⟩
theorem digC_ne {c d : UInt8} (h : digC c = true) (hd : digC d = false) : c ≠ d := fun e => by rw [e, hd] at h; cases h
/-- the sign and what stands behind it -/
def magn (s : List UInt8) : List UInt8 := match s with | [] => [] | c :: r => if c = 45 then r else c :: r
def isNeg (s : List UInt8) : Bool := match s with | [] => false | c :: _ => c == 45
/-- the number that a text writes, as the reference reads it -/
def sgn (s : List UInt8) : Int := if isNeg s then -((spell 0 (magn s) : Nat) : Int) else ((spell 0 (magn s) : Nat) : Int)
def numO (s : List UInt8) : Option Int :=
  if 1 ≤ (magn s).length ∧ (magn s).length ≤ 18 ∧ (magn s).all digC = true then
    (if Lib.itoa (sgn s) = s then some (sgn s) else none)
  else none
theorem itoa_parts (v : Int) : magn (Lib.itoa v) = Lib.decDigits v.natAbs ∧ isNeg (Lib.itoa v) = decide (v < 0) := by
  rcases Int.lt_or_le v 0 with h | h
  · rw [itoa_ng h]; exact ⟨rfl, by simp [isNeg, h]⟩
  · rw [itoa_nn h, show v.natAbs = v.toNat by omega]
    obtain ⟨c, r, e, hd⟩ := dec_head v.toNat
    have hc : c ≠ 45 := digC_ne hd (by decide)
    rw [e]
    refine ⟨if_neg hc, ?_⟩
    simp only [isNeg, beq_eq_false_iff_ne.2 hc]
    exact (decide_eq_false (by omega)).symm
theorem itoa_back (v : Int) : sgn (Lib.itoa v) = v := by
  unfold sgn
  obtain ⟨h1, h2⟩ := itoa_parts v
  rw [h1, h2, dec_spell]
  by_cases h : v < 0
  · rw [if_pos (decide_eq_true h)]; omega
  · rw [if_neg (by simpa using h)]; omega
theorem itoa_inj {a b : Int} (h : Lib.itoa a = Lib.itoa b) : a = b := by rw [← itoa_back a, ← itoa_back b, h]
theorem numO_iff (s : List UInt8) (v : Int) : numO s = some v ↔ Lib.itoa v = s ∧ v.natAbs < 10 ^ 18 := by
  constructor
  · intro h
    unfold numO at h
    split at h
    · rename_i hc
      split at h
      · rename_i he
        injection h with h
        rw [h] at he
        refine ⟨he, ?_⟩
        have := hc.2.1
        rw [← he, (itoa_parts v).1] at this
        exact (dec_len (by omega)).1 this
      · cases h
    · cases h
  · rintro ⟨rfl, hb⟩
    have hl : (Lib.decDigits v.natAbs).length ≤ 18 := (dec_len (by omega)).2 hb
    unfold numO
    rw [if_pos ⟨by rw [(itoa_parts v).1]; exact dec_pos _, by rw [(itoa_parts v).1]; exact hl, by rw [(itoa_parts v).1]; exact dec_all _⟩, itoa_back, if_pos rfl]
/-- the number that a text writes, as the program reads it -/
def rdO (s : List UInt8) : Option Int := match Lib.parseIntB 64 s with
  | .ok v => if Lib.itoa v = s ∧ (Lib.trimPrefix s [45]).length ≤ 18 then some v else none
  | _ => none
theorem trim_magn (s : List UInt8) : Lib.trimPrefix s [45] = magn s := by
  unfold Lib.trimPrefix Lib.hasPrefix magn
  cases s with
  | nil => rfl
  | cons c r =>
    by_cases h : c = 45
    · subst h; simp [List.isPrefixOf]
    · have : (45 == c) = false := beq_eq_false_iff_ne.2 (Ne.symm h)
      simp [List.isPrefixOf, this, h]
theorem parse_itoa {v : Int} (h : v.natAbs < 10 ^ 18) : Lib.parseIntB 64 (Lib.itoa v) = .ok v := by
  rw [Lib.parseIntB_64]
  have hp : ∀ u : Nat, u < 10 ^ 18 → Lib.parseMag (Lib.decDigits u) = .ok u := fun u hu => by
    have hne : Lib.decDigits u ≠ [] := fun e => by have := dec_pos u; rw [e] at this; exact absurd this (by simp)
    rw [Lib.parseMag, if_neg hne]
    have := parse_digits (Lib.decDigits u) 0 (dec_all u) (by rw [dec_spell]; omega)
    rw [dec_spell] at this; exact this
  rcases Int.lt_or_le v 0 with hv | hv
  · rw [itoa_ng hv]
    simp only [Lib.atoiAll]
    have e45 : (45 : UInt8).toNat = 45 := rfl
    simp only [e45, or_true, if_true, hp _ h, not_true_eq_false, false_and, if_false, true_and]
    rw [if_neg (by omega)]
    congr 1; omega
  · rw [itoa_nn hv]
    obtain ⟨c, r, e, hd⟩ := dec_head v.toNat
    have hc : c.toNat ≠ 43 ∧ c.toNat ≠ 45 := by
      simp only [digC, decide_eq_true_eq] at hd; omega
    have hq := hp v.toNat (by omega)
    rw [e] at hq ⊢
    simp only [Lib.atoiAll, if_neg (show ¬ (c.toNat = 43 ∨ c.toNat = 45) by omega), hq, if_neg hc.2]
    rw [if_neg (by omega), if_neg (by omega)]
    congr 1; omega
theorem rdO_iff (s : List UInt8) (v : Int) : rdO s = some v ↔ Lib.itoa v = s ∧ v.natAbs < 10 ^ 18 := by
  constructor
  · intro h
    unfold rdO at h
    split at h
    · split at h
      · rename_i v' _ hc
        injection h with h
        subst h
        refine ⟨hc.1, ?_⟩
        have := hc.2
        rw [trim_magn, ← hc.1, (itoa_parts v').1] at this
        exact (dec_len (by omega)).1 this
      · cases h
    · cases h
  · rintro ⟨rfl, hb⟩
    unfold rdO
    rw [parse_itoa hb]
    exact if_pos ⟨rfl, by rw [trim_magn, (itoa_parts v).1]; exact (dec_len (by omega)).2 hb⟩
theorem rd_num (s : List UInt8) : rdO s = numO s := by
  cases h : numO s with
  | none =>
    cases h2 : rdO s with
    | none => rfl
    | some v => rw [(numO_iff s v).2 ((rdO_iff s v).1 h2)] at h; cases h
  | some v => exact (rdO_iff s v).2 ((numO_iff s v).1 h)
/-! ### Fields and splits -/
/-- the pieces of a text between the bytes of a kind -/
def fl (p : UInt8 → Bool) : List UInt8 → Option (List UInt8) → List (List UInt8)
  | [], none => []
  | [], some w => [w]
  | x :: r, none => if p x then fl p r none else fl p r (some [x])
  | x :: r, some w => if p x then w :: fl p r none else fl p r (some (w ++ [x]))
theorem fl_sep {p : UInt8 → Bool} {x : UInt8} (h : p x = true) (r w : List UInt8) : fl p (x :: r) (some w) = w :: fl p r none := by rw [fl, if_pos h]
theorem fl_sep0 {p : UInt8 → Bool} {x : UInt8} (h : p x = true) (r : List UInt8) : fl p (x :: r) none = fl p r none := by rw [fl, if_pos h]
theorem fl_more {p : UInt8 → Bool} (w : List UInt8) : ∀ (c r : List UInt8), w.all (fun x => !p x) = true → fl p (w ++ r) (some c) = fl p r (some (c ++ w)) := by
  induction w with
  | nil => intro c r _; simp
  | cons x w ih =>
    intro c r h
    simp only [List.all_cons, Bool.and_eq_true, Bool.not_eq_true'] at h
    rw [List.cons_append, fl, if_neg (by rw [h.1]; exact Bool.false_ne_true), ih _ _ h.2]
    simp
theorem fl_word {p : UInt8 → Bool} {w : List UInt8} (r : List UInt8) (h0 : 0 < w.length) (h : w.all (fun x => !p x) = true) : fl p (w ++ r) none = fl p r (some w) := by
  cases w with
  | nil => exact absurd h0 (by simp)
  | cons x w =>
    simp only [List.all_cons, Bool.and_eq_true, Bool.not_eq_true'] at h
    rw [List.cons_append, fl, if_neg (by rw [h.1]; exact Bool.false_ne_true), fl_more w [x] r h.2]
    rfl
theorem ext_list (s : ByteArray) (a b : Nat) : (s.extract a b).data.toList = (s.data.toList.drop a).take (b - a) := by
  simp
theorem cut_snoc {l : List UInt8} {a pos : Nat} {x : UInt8} (h : a ≤ pos) (hx : l[pos]? = some x) : (l.drop a).take (pos + 1 - a) = (l.drop a).take (pos - a) ++ [x] := by
  rw [show pos + 1 - a = (pos - a) + 1 by omega, List.take_add_one, List.getElem?_drop, show a + (pos - a) = pos by omega, hx]
  rfl
theorem fields_ascii (P : Nat → Bool) (s : ByteArray) (hs : ∀ c ∈ s.data.toList, c.toNat < 128) : ∀ (f pos : Nat) (st : Option Nat) (acc : List (Nat × Nat)), s.size - pos ≤ f → (∀ a, st = some a → a ≤ pos) →
    (Lib.closeSpans s (Lib.spansFromP P s f pos st acc)).map (fun x => (s.extract x.1 x.2).data.toList) = acc.map (fun x => (s.extract x.1 x.2).data.toList) ++ fl (fun c => P c.toNat) (s.data.toList.drop pos) (st.map fun a => (s.data.toList.drop a).take (pos - a)) := by
  have hsz : s.size = s.data.toList.length := Lib.size_eq s
  have hend : ∀ (f pos : Nat) (st : Option Nat) (acc : List (Nat × Nat)), ¬ pos < s.size → (∀ a, st = some a → a ≤ pos) → (Lib.closeSpans s (Lib.spansFromP P s f pos st acc)).map (fun x => (s.extract x.1 x.2).data.toList) = acc.map (fun x => (s.extract x.1 x.2).data.toList) ++ fl (fun c => P c.toNat) (s.data.toList.drop pos) (st.map fun a => (s.data.toList.drop a).take (pos - a)) := by
    intro f pos st acc h ha
    rw [Lib.spansFromP_end P s f pos st acc h, List.drop_eq_nil_of_le (by omega)]
    cases st with
    | none => simp [Lib.closeSpans, fl]
    | some a =>
      simp only [Lib.closeSpans, List.map_append, List.map_cons, List.map_nil, ext_list, Option.map_some, fl]
      have t1 : (s.data.toList.drop a).take (s.size - a) = s.data.toList.drop a := List.take_of_length_le (by rw [List.length_drop]; omega)
      have t2 : (s.data.toList.drop a).take (pos - a) = s.data.toList.drop a := List.take_of_length_le (by rw [List.length_drop]; omega)
      rw [t1, t2]
  intro f
  induction f with
  | zero => intro pos st acc hf ha; exact hend 0 pos st acc (by omega) ha
  | succ f ih =>
    intro pos st acc hf ha
    by_cases h : pos < s.size
    · have hl : pos < s.data.toList.length := by omega
      have hx : s.data.toList[pos]? = some s.data.toList[pos] := List.getElem?_eq_getElem hl
      have hg : (s[pos]'h) = s.data.toList[pos] := by simp [ByteArray.getElem_eq_getElem_data]
      have hc := hs _ (List.getElem_mem hl)
      have hd := decode_ascii s pos h (by rw [hg]; exact hc)
      rw [hg] at hd
      have hdr : s.data.toList.drop pos = s.data.toList[pos] :: s.data.toList.drop (pos + 1) := List.drop_eq_getElem_cons hl
      rw [hdr]
      generalize s.data.toList[pos] = x at *
      rw [Lib.spansFromP.eq_def]
      simp only []
      rw [if_pos h, hd]
      simp only []
      cases st with
      | none =>
        by_cases hp : P x.toNat = true
        · rw [if_pos hp, ih _ _ _ (by omega) (by intro a ha; cases ha)]
          simp only [Option.map_none]
          rw [fl_sep0 (p := fun c => P c.toNat) hp]
        · rw [if_neg hp, ih _ _ _ (by omega) (by intro a ha; injection ha with ha; omega)]
          simp only [Option.map_none, Option.map_some]
          rw [cut_snoc (Nat.le_refl _) hx, Nat.sub_self, List.take_zero, List.nil_append, fl, if_neg hp]
      | some a =>
        have haa := ha a rfl
        by_cases hp : P x.toNat = true
        · rw [if_pos hp, ih _ _ _ (by omega) (by intro a ha; cases ha)]
          simp only [Option.map_none, Option.map_some, List.map_append, List.map_cons, List.map_nil, ext_list, List.append_assoc]
          rw [fl_sep (p := fun c => P c.toNat) hp]; rfl
        · rw [if_neg hp, ih _ _ _ (by omega) (by intro a ha; injection ha with ha; omega)]
          simp only [Option.map_some]
          rw [cut_snoc haa hx, fl, if_neg hp]
    · exact hend (f + 1) pos st acc h ha
theorem goFields_ascii (P : Nat → Bool) (s : ByteArray) (hs : ∀ c ∈ s.data.toList, c.toNat < 128) : (Lib.goFieldsP P s).map (fun x => x.data.toList) = fl (fun c => P c.toNat) s.data.toList none := by
  have h := fields_ascii P s hs s.size 0 none [] (by omega) (by intro a ha; cases ha)
  rw [Lib.goFieldsP, Lib.spansOfP, List.map_map]
  exact h
/-- the parts of a text between the places of a byte -/
def sp (b : UInt8) : List UInt8 → List UInt8 → List (List UInt8)
  | [], cur => [cur]
  | x :: r, cur => if x = b then cur :: sp b r [] else sp b r (cur ++ [x])
theorem sp_sep (b : UInt8) (r cur : List UInt8) : sp b (b :: r) cur = cur :: sp b r [] := by rw [sp, if_pos rfl]
theorem sp_word {b : UInt8} (w : List UInt8) : ∀ (cur r : List UInt8), (∀ x ∈ w, x ≠ b) → sp b (w ++ r) cur = sp b r (cur ++ w) := by
  induction w with
  | nil => intro cur r _; simp
  | cons x w ih =>
    intro cur r h
    rw [List.cons_append, sp, if_neg (h x (by simp)), ih _ _ (fun y hy => h y (by simp [hy]))]
    simp
def joinB (b : UInt8) : List (List UInt8) → List UInt8
  | [] => []
  | [a] => a
  | a :: c :: t => a ++ b :: joinB b (c :: t)
theorem sp_ne (b : UInt8) (l : List UInt8) : ∀ cur, sp b l cur ≠ [] := by
  induction l with
  | nil => intro cur; simp [sp]
  | cons x r ih =>
    intro cur
    rw [sp]
    split
    · simp
    · exact ih _
theorem sp_join (b : UInt8) (l : List UInt8) : ∀ cur, joinB b (sp b l cur) = cur ++ l := by
  induction l with
  | nil => intro cur; simp [sp, joinB]
  | cons x r ih =>
    intro cur
    rw [sp]
    split
    · rename_i e
      have h := ih []
      cases hs : sp b r [] with
      | nil => exact absurd hs (sp_ne b r [])
      | cons c t => rw [hs] at h; rw [joinB, h, e]; rfl
    · rw [ih]; simp

end Go.Proofs.YtcdpgdpabmlpdaaDoor
