/- The reference's reading of numbers and parts. -/
import Derived.Test.YtcdpgdpabmlpdaaDoorRd2
import Derived.Laws.DeepStrings4
namespace Go.Proofs.YtcdpgdpabmlpdaaDoor
open Go.RowKit

set_option maxHeartbeats 1000000 in
theorem l01Digit_c (c : UInt8) (w : World) : Calls Tryd.prog 64 #[.int .u8 (c.toNat : Int)] w fun e w' => e = .returned (.bool (digC c)) ∧ w = w' := by
  by_cases h1 : 48 ≤ c.toNat
  · have h1' : (48 : Int) ≤ (c.toNat : Int) := by omega
    by_cases h2 : c.toNat ≤ 57
    · have HV := Lib.hid (show digC c = true by simp [digC, h1, h2])
      have h2' : (c.toNat : Int) ≤ 57 := by omega
      clear h1 h2
      go_enter Tryd.func64, Tryd.ntmps64
      go_wp2
      go_ret
      exact ⟨ret_bool HV.out.symm, rfl⟩
    · have HV := Lib.hid (show digC c = false by simp [digC, h1, h2])
      have h2' : ¬ (c.toNat : Int) ≤ 57 := by omega
      clear h1 h2
      go_enter Tryd.func64, Tryd.ntmps64
      go_wp2
      go_ret
      exact ⟨ret_bool HV.out.symm, rfl⟩
  · have HV := Lib.hid (show digC c = false by simp [digC, h1])
    have h1' : ¬ (48 : Int) ≤ (c.toNat : Int) := by omega
    clear h1
    go_enter Tryd.func64, Tryd.ntmps64
    go_wp2
    go_ret
    exact ⟨ret_bool HV.out.symm, rfl⟩

theorem spell_lt (l : List UInt8) : ∀ acc, l.all digC = true → spell acc l < (acc + 1) * 10 ^ l.length := by
  induction l with
  | nil => intro acc _; rw [spell_nil]; simp
  | cons c r ih =>
    intro acc h
    simp only [List.all_cons, Bool.and_eq_true, digC, decide_eq_true_eq] at h
    rw [spell_cons]
    refine Nat.lt_of_lt_of_le (ih _ h.2) ?_
    rw [List.length_cons, Nat.pow_succ, Nat.mul_comm (10 ^ r.length) 10, ← Nat.mul_assoc]
    exact Nat.mul_le_mul_right _ (by omega)
theorem spell_bd {l : List UInt8} {k : Nat} (h : (l.take k).all digC = true) (hk : k ≤ 17) : spell 0 (l.take k) < 100000000000000000 := by
  have h1 := spell_lt (l.take k) 0 h
  have h2 : (l.take k).length ≤ 17 := by rw [List.length_take]; omega
  have h3 : 10 ^ (l.take k).length ≤ 10 ^ 17 := Nat.pow_le_pow_right (by omega) h2
  have h4 : (10 : Nat) ^ 17 = 100000000000000000 := by decide
  omega
theorem num_none {s : ByteArray} (h : ¬ (1 ≤ (magn s.data.toList).length ∧ (magn s.data.toList).length ≤ 18 ∧ (magn s.data.toList).all digC = true)) : rdI s = 0 ∧ rdB s = false := by
  unfold rdI rdB numO
  rw [if_neg h]; exact ⟨rfl, rfl⟩
theorem num_some {s : ByteArray} (h : 1 ≤ (magn s.data.toList).length ∧ (magn s.data.toList).length ≤ 18 ∧ (magn s.data.toList).all digC = true) (h2 : Lib.itoa (sgn s.data.toList) = s.data.toList) : rdI s = sgn s.data.toList ∧ rdB s = true := by
  unfold rdI rdB numO
  rw [if_pos h, if_pos h2]; exact ⟨rfl, rfl⟩
theorem num_no {s : ByteArray} (h2 : ¬ Lib.itoa (sgn s.data.toList) = s.data.toList) : rdI s = 0 ∧ rdB s = false := by
  have e : numO s.data.toList = none := by
    unfold numO
    by_cases hc : 1 ≤ (magn s.data.toList).length ∧ (magn s.data.toList).length ≤ 18 ∧ (magn s.data.toList).all digC = true
    · rw [if_pos hc, if_neg h2]
    · rw [if_neg hc]
  unfold rdI rdB
  rw [e]; exact ⟨rfl, rfl⟩
theorem at_list (t : ByteArray) {k : Nat} (h : k < t.size) : t.data.toList[k]? = some (t[k]'h) := by
  rw [List.getElem?_eq_getElem (by rw [← Lib.size_eq]; exact h)]; rfl
theorem spell_take (t : ByteArray) {k : Nat} (h : k < t.size) : spell 0 (t.data.toList.take (k + 1)) = spell 0 (t.data.toList.take k) * 10 + ((t[k]'h).toNat - 48) := by
  rw [List.take_add_one, at_list t h, spell_append]
  show spell _ [t[k]'h] = _
  rw [spell_cons, spell_nil]
theorem all_take (t : ByteArray) {k : Nat} (h : k < t.size) : (t.data.toList.take (k + 1)).all digC = ((t.data.toList.take k).all digC && digC (t[k]'h)) := by
  rw [List.take_add_one, at_list t h, List.all_append]; simp
set_option maxHeartbeats 8000000 in
set_option maxRecDepth 100000 in
theorem l01Number_c (s : ByteArray) (hs : s.size ≤ 1048576) (w : World) : Calls Tryd.prog 65 #[.string s] w fun e w' => e = .returned (.tuple #[.int .i64 (rdI s), .bool (rdB s)]) ∧ Below w.heap.size w w' := by
  have hsz := Lib.size_eq s
  rcases Nat.eq_zero_or_pos s.size with h0 | h0
  · have HV := Lib.hid (num_none (s := s) (by rw [h0] at hsz; rw [List.eq_nil_of_length_eq_zero hsz.symm]; simp [magn]))
    have hnil : s.data.toList = [] := List.eq_nil_of_length_eq_zero (by omega)
    obtain rfl : s = ByteArray.empty := WideShapes.bytes_inj (by rw [hnil]; rfl)
    clear hnil
    clear hsz h0
    go_enter Tryd.func65, Tryd.ntmps65
    go_wp2
    go_ret2
    exact ⟨by rw [HV.out.1, HV.out.2]; rfl, Below.refl _ _⟩

  have hne : s.toList.isEmpty = false := by
    rw [ByteArray.toList_eq]
    cases h : s.data.toList with
    | nil => rw [h] at hsz; simp only [List.length_nil] at hsz; omega
    | cons _ _ => rfl
  have hs0 : (0 : Int) < (s.size : Int) := by omega
  have hl0 : s.data.toList = s[0]'h0 :: s.data.toList.tail := by
    have h := at_list s h0
    cases hl : s.data.toList with
    | nil => rw [hl] at h; cases h
    | cons a r => rw [hl] at h; simp at h; rw [h]; rfl
  by_cases h45 : s[0]'h0 = 45
  · have hb : (((s[0]'h0).toNat : Int) == 45) = true := by rw [h45]; rfl
    have hm : magn s.data.toList = (s.extract 1 s.size).data.toList := by
      rw [hl0, ext_list, h45]
      simp only [magn, if_true]
      rw [← List.drop_one, List.take_of_length_le (by rw [List.length_drop]; omega), List.drop_one]
    have HNEG := Lib.hid (show isNeg s.data.toList = true by rw [hl0, h45]; rfl)
    have hml : (magn s.data.toList).length = s.size - 1 := by rw [hm, ← Lib.size_eq, ByteArray.size_extract]; omega
    have HM := Lib.hid hm
    by_cases hA : s.size - 1 < 1
    · have HV := Lib.hid (num_none (s := s) (by rw [hml]; rintro ⟨h, _⟩; omega))
      have hA' : ((s.size - 1 : Nat) : Int) < 1 := by omega
      clear hml hm hsz h45 hl0 hA
      go_enter Tryd.func65, Tryd.ntmps65
      go_wp2
      go_ret2
      exact ⟨by rw [HV.out.1, HV.out.2]; rfl, Below.refl _ _⟩

    have hA' : ¬ ((s.size - 1 : Nat) : Int) < 1 := by omega
    by_cases hB : 18 < s.size - 1
    · have HV := Lib.hid (num_none (s := s) (by rw [hml]; rintro ⟨_, h, _⟩; omega))
      have hB' : (18 : Int) < ((s.size - 1 : Nat) : Int) := by omega
      clear hml hm hsz h45 hl0 hA
      go_enter Tryd.func65, Tryd.ntmps65
      go_wp2
      go_ret2
      exact ⟨by rw [HV.out.1, HV.out.2]; rfl, Below.refl _ _⟩

    have hB' : ¬ (18 : Int) < ((s.size - 1 : Nat) : Int) := by omega
    clear hml hm hsz h45 hl0
    go_enter Tryd.func65, Tryd.ntmps65
    go_wp2

    have htz : (s.extract 1 s.size).size = s.size - 1 := by rw [ByteArray.size_extract]; omega
    generalize s.extract 1 s.size = t at *
    have HT := Lib.hid (HM.out.symm)
    go_loopw [5, 6] (fun n i wr => ∃ k : Nat, k ≤ t.size ∧ n = .int .i64 ((spell 0 (t.data.toList.take k) : Nat) : Int) ∧ i = .int .i64 (k : Int) ∧ w = wr ∧ Hid ((t.data.toList.take k).all digC = true)) (fun _ i _ => t.size - (intOf i).toNat)
    case atStart => exact ⟨0, by omega, rfl, rfl, rfl, rfl⟩
    case round =>
      obtain ⟨k, hk, rfl, rfl, rfl, HA⟩ := hrel
      by_cases hlt : k < t.size
      · have hbd := spell_bd HA.out (by omega)
        have HS := Lib.hid (spell_take t hlt)
        have HL := Lib.hid (all_take t hlt)
        have j0 : (0 : Int) ≤ (k : Int) := by omega
        have j1 : (k : Int) < (t.size : Int) := by omega
        cases hd : digC (t[k]'hlt)
        · have HN := Lib.hid (num_none (s := s) (by
            rintro ⟨_, _, h⟩
            rw [← HT.out] at h
            have h2 := List.all_eq_true.1 h _ (List.mem_of_getElem? (at_list t hlt))
            rw [hd] at h2; cases h2))
          have HD := Lib.hid hd
          clear hd
          go_wp2_with fail
          refine (l01Digit_c (t[k]'hlt) _).mono ?_
          rintro e w3 ⟨rfl, rfl⟩
          rw [HD.out]
          go_wp2
          go_ret2
          exact ⟨by rw [HN.out.1, HN.out.2]; rfl, Below.refl _ _⟩
        · have hg : 48 ≤ (t[k]'hlt).toNat ∧ (t[k]'hlt).toNat ≤ 57 := by simpa [digC] using hd
          have g1 : (48 : Int) ≤ ((t[k]'hlt).toNat : Int) := by omega
          have g2 : ((t[k]'hlt).toNat : Int) ≤ 57 := by omega
          have HA2 : Hid ((t.data.toList.take (k + 1)).all digC = true) := by
            show _ = _
            rw [HL.out, HA.out, hd]; rfl
          have HD := Lib.hid hd
          clear hd
          generalize spell 0 (t.data.toList.take k) = S at *
          go_wp2_with fail
          refine (l01Digit_c (t[k]'hlt) _).mono ?_
          rintro e w3 ⟨rfl, rfl⟩
          rw [HD.out]
          go_wp2
          go_roundw
          case rel => exact ⟨k + 1, by omega, congrArg (Value.int .i64) (by rw [HS.out]; omega), by go_num, trivial, HA2⟩
          case measure => simp [intOf]; omega
      · obtain rfl : k = t.size := by omega
        have hfull : t.data.toList.take t.size = t.data.toList := List.take_of_length_le (by rw [Lib.size_eq]; exact Nat.le_refl _)
        rw [hfull] at HA
        have hbd2 : spell 0 t.data.toList < 1000000000000000000 := by
          have h1 := spell_lt t.data.toList 0 HA.out
          have h3 : 10 ^ t.data.toList.length ≤ 10 ^ 18 := Nat.pow_le_pow_right (by omega) (by rw [← Lib.size_eq]; omega)
          have h4 : (10 : Nat) ^ 18 = 1000000000000000000 := by decide
          omega
        have hsg : sgn s.data.toList = (-((spell 0 t.data.toList : Nat) : Int)) := by
          unfold sgn
          rw [HNEG.out, ← HT.out]; rfl
        have HC := Lib.hid (show 1 ≤ (magn s.data.toList).length ∧ (magn s.data.toList).length ≤ 18 ∧ (magn s.data.toList).all digC = true by
          rw [← HT.out, ← Lib.size_eq]; exact ⟨by omega, by omega, HA.out⟩)
        by_cases hq : Lib.itoa (sgn s.data.toList) = s.data.toList
        · have HV := Lib.hid (num_some HC.out hq)
          have HSG := Lib.hid hsg
          rw [hsg] at hq
          have hqq : ((decS (-((spell 0 t.data.toList : Nat) : Int))).toList == s.toList) = true := str_eq (by rw [decS_data]; exact hq)
          clear hq hsg
          rw [hfull]
          clear hfull
          generalize spell 0 t.data.toList = S at *
          go_wp2_with fail
          refine (l01Dec_c _ _ (by omega) (by omega)).mono ?_
          rintro e w3 ⟨rfl, hb3⟩
          have HB3 := Lib.hid hb3
          clear hb3
          go_wp2
          go_ret2
          exact ⟨by rw [HV.out.1, HV.out.2, HSG.out]; rfl, HB3.out⟩
        · have HV := Lib.hid (num_no hq)
          rw [hsg] at hq
          have hqq : ((decS (-((spell 0 t.data.toList : Nat) : Int))).toList == s.toList) = false := str_ne (by rw [decS_data]; exact hq)
          clear hq hsg
          rw [hfull]
          clear hfull
          generalize spell 0 t.data.toList = S at *
          go_wp2_with fail
          refine (l01Dec_c _ _ (by omega) (by omega)).mono ?_
          rintro e w3 ⟨rfl, hb3⟩
          have HB3 := Lib.hid hb3
          clear hb3
          go_wp2
          go_ret2
          exact ⟨by rw [HV.out.1, HV.out.2]; rfl, HB3.out⟩

  · have hb : (((s[0]'h0).toNat : Int) == 45) = false := beq_eq_false_iff_ne.2 (fun h => h45 (UInt8.toNat_inj.1 (show (s[0]'h0).toNat = 45 by omega)))
    have hm : magn s.data.toList = s.data.toList := by
      rw [hl0]; exact if_neg h45
    have HNEG := Lib.hid (show isNeg s.data.toList = false by rw [hl0]; exact beq_eq_false_iff_ne.2 h45)
    have hml : (magn s.data.toList).length = s.size := by rw [hm, ← Lib.size_eq]
    have HM := Lib.hid hm
    have hA' : ¬ (s.size : Int) < 1 := by omega
    by_cases hB : 18 < s.size
    · have HV := Lib.hid (num_none (s := s) (by rw [hml]; rintro ⟨_, h, _⟩; omega))
      have hB' : (18 : Int) < (s.size : Int) := by omega
      clear hml hm hsz h45 hl0
      go_enter Tryd.func65, Tryd.ntmps65
      go_wp2
      go_ret2
      exact ⟨by rw [HV.out.1, HV.out.2]; rfl, Below.refl _ _⟩

    have hB' : ¬ (18 : Int) < (s.size : Int) := by omega
    clear hml hm hsz h45 hl0
    go_enter Tryd.func65, Tryd.ntmps65
    go_wp2

    have HT := Lib.hid (HM.out.symm)
    go_loopw [5, 6] (fun n i wr => ∃ k : Nat, k ≤ s.size ∧ n = .int .i64 ((spell 0 (s.data.toList.take k) : Nat) : Int) ∧ i = .int .i64 (k : Int) ∧ w = wr ∧ Hid ((s.data.toList.take k).all digC = true)) (fun _ i _ => s.size - (intOf i).toNat)
    case atStart => exact ⟨0, by omega, rfl, rfl, rfl, rfl⟩
    case round =>
      obtain ⟨k, hk, rfl, rfl, rfl, HA⟩ := hrel
      by_cases hlt : k < s.size
      · have hbd := spell_bd HA.out (by omega)
        have HS := Lib.hid (spell_take s hlt)
        have HL := Lib.hid (all_take s hlt)
        have j0 : (0 : Int) ≤ (k : Int) := by omega
        have j1 : (k : Int) < (s.size : Int) := by omega
        cases hd : digC (s[k]'hlt)
        · have HN := Lib.hid (num_none (s := s) (by
            rintro ⟨_, _, h⟩
            rw [← HT.out] at h
            have h2 := List.all_eq_true.1 h _ (List.mem_of_getElem? (at_list s hlt))
            rw [hd] at h2; cases h2))
          have HD := Lib.hid hd
          clear hd
          go_wp2_with fail
          refine (l01Digit_c (s[k]'hlt) _).mono ?_
          rintro e w3 ⟨rfl, rfl⟩
          rw [HD.out]
          go_wp2
          go_ret2
          exact ⟨by rw [HN.out.1, HN.out.2]; rfl, Below.refl _ _⟩
        · have hg : 48 ≤ (s[k]'hlt).toNat ∧ (s[k]'hlt).toNat ≤ 57 := by simpa [digC] using hd
          have g1 : (48 : Int) ≤ ((s[k]'hlt).toNat : Int) := by omega
          have g2 : ((s[k]'hlt).toNat : Int) ≤ 57 := by omega
          have HA2 : Hid ((s.data.toList.take (k + 1)).all digC = true) := by
            show _ = _
            rw [HL.out, HA.out, hd]; rfl
          have HD := Lib.hid hd
          clear hd
          generalize spell 0 (s.data.toList.take k) = S at *
          go_wp2_with fail
          refine (l01Digit_c (s[k]'hlt) _).mono ?_
          rintro e w3 ⟨rfl, rfl⟩
          rw [HD.out]
          go_wp2
          go_roundw
          case rel => exact ⟨k + 1, by omega, congrArg (Value.int .i64) (by rw [HS.out]; omega), by go_num, trivial, HA2⟩
          case measure => simp [intOf]; omega
      · obtain rfl : k = s.size := by omega
        have hfull : s.data.toList.take s.size = s.data.toList := List.take_of_length_le (by rw [Lib.size_eq]; exact Nat.le_refl _)
        rw [hfull] at HA
        have hbd2 : spell 0 s.data.toList < 1000000000000000000 := by
          have h1 := spell_lt s.data.toList 0 HA.out
          have h3 : 10 ^ s.data.toList.length ≤ 10 ^ 18 := Nat.pow_le_pow_right (by omega) (by rw [← Lib.size_eq]; omega)
          have h4 : (10 : Nat) ^ 18 = 1000000000000000000 := by decide
          omega
        have hsg : sgn s.data.toList = ((spell 0 s.data.toList : Nat) : Int) := by
          unfold sgn
          rw [HNEG.out, ← HT.out]; rfl
        have HC := Lib.hid (show 1 ≤ (magn s.data.toList).length ∧ (magn s.data.toList).length ≤ 18 ∧ (magn s.data.toList).all digC = true by
          rw [← HT.out, ← Lib.size_eq]; exact ⟨by omega, by omega, HA.out⟩)
        by_cases hq : Lib.itoa (sgn s.data.toList) = s.data.toList
        · have HV := Lib.hid (num_some HC.out hq)
          have HSG := Lib.hid hsg
          rw [hsg] at hq
          have hqq : ((decS ((spell 0 s.data.toList : Nat) : Int)).toList == s.toList) = true := str_eq (by rw [decS_data]; exact hq)
          clear hq hsg
          rw [hfull]
          clear hfull
          generalize spell 0 s.data.toList = S at *
          go_wp2_with fail
          refine (l01Dec_c _ _ (by omega) (by omega)).mono ?_
          rintro e w3 ⟨rfl, hb3⟩
          have HB3 := Lib.hid hb3
          clear hb3
          go_wp2
          go_ret2
          exact ⟨by rw [HV.out.1, HV.out.2, HSG.out]; rfl, HB3.out⟩
        · have HV := Lib.hid (num_no hq)
          rw [hsg] at hq
          have hqq : ((decS ((spell 0 s.data.toList : Nat) : Int)).toList == s.toList) = false := str_ne (by rw [decS_data]; exact hq)
          clear hq hsg
          rw [hfull]
          clear hfull
          generalize spell 0 s.data.toList = S at *
          go_wp2_with fail
          refine (l01Dec_c _ _ (by omega) (by omega)).mono ?_
          rintro e w3 ⟨rfl, hb3⟩
          have HB3 := Lib.hid hb3
          clear hb3
          go_wp2
          go_ret2
          exact ⟨by rw [HV.out.1, HV.out.2]; rfl, HB3.out⟩

theorem infoStr : (Tryd.prog.info? 9).map (fun i => (i.zero, i.size, i.bytes)) = some (some (.string ⟨#[]⟩), 1, 16) := by kernel_rfl
/-- append of one string to a row of the call's own -/
theorem appStr {ops : Array Oper} {rest : List Oper} {o : Oper} {a : Act} {Q : Exit → Act → World → Prop} {w0 wr : World} (s x : Operand) (hgd : o.guard = none) (ho : o.op = .call { callee := .builtin .append, args := #[s, x], argTypes := #[76, 76] })
    (v : Value) (L : List ByteArray) (y : ByteArray) (hv : a.eval s = v) (hown : Own eS 1 wr w0.heap.size 9 v L) (hb : Below w0.heap.size w0 wr) {g : Nat} (hx : a.eval x = .slice (some ⟨g, 0, none⟩) 1 1) (hgs : g = wr.heap.size) (hl : L.length + 1 ≤ 1000000000)
    (h : ∀ v' w', Own eS 1 w' w0.heap.size 9 v' (L ++ [y]) → Below w0.heap.size w0 w' → wpList Tryd.prog ops Q rest (a.put o.dst v') w') : wpList Tryd.prog ops Q (o :: rest) a (wr.alloc (.cells (eS y).toArray 9)) := by
  obtain ⟨i0, hi, hz0, hz1, hz2⟩ := info_parts infoStr
  exact wpList_app s x 76 hgd ho w0 9 i0 _ 1 16 Tryd.underlying76 hi hz0 hz1 hz2 rfl (by decide) len_eS (by intro y u hu; simp only [List.mem_cons, List.not_mem_nil, or_false] at hu; rcases hu with rfl <;> rfl) v L y hv hown hb hx hgs (by unfold maxLen; omega) (by omega) h
/-- the parts of a text as it holds them: what is behind place k, the part that is open from place a on -/
def ptB (b : UInt8) (s : ByteArray) : List ByteArray := (sp b s.data.toList []).map (fun l => ⟨l.toArray⟩)
/-- the parts done ahead of place k, and where the open one begins -/
def ptTo (b : UInt8) (s : ByteArray) : Nat → List ByteArray × Nat
  | 0 => ([], 0)
  | k + 1 => if s.get! k = b then ((ptTo b s k).1 ++ [s.extract (ptTo b s k).2 k], k + 1) else ptTo b s k
theorem ptTo_le (b : UInt8) (s : ByteArray) (k : Nat) : (ptTo b s k).2 ≤ k ∧ (ptTo b s k).1.length ≤ k := by
  induction k with
  | zero => exact ⟨Nat.le_refl _, Nat.le_refl _⟩
  | succ k ih =>
    rw [ptTo]
    split
    · refine ⟨Nat.le_refl _, ?_⟩
      rw [List.length_append, List.length_singleton]; omega
    · omega
theorem get_bang {s : ByteArray} {k : Nat} (h : k < s.size) : s.get! k = s[k]'h := by
  obtain ⟨d⟩ := s
  exact getElem!_pos d k h
theorem ptTo_yes {b : UInt8} {s : ByteArray} {k : Nat} (h : k < s.size) (hb : s[k]'h = b) : ptTo b s (k + 1) = ((ptTo b s k).1 ++ [s.extract (ptTo b s k).2 k], k + 1) := by rw [ptTo, if_pos (by rw [get_bang h]; exact hb)]
theorem ptTo_no {b : UInt8} {s : ByteArray} {k : Nat} (h : k < s.size) (hb : s[k]'h ≠ b) : ptTo b s (k + 1) = ptTo b s k := by rw [ptTo, if_neg (by rw [get_bang h]; exact hb)]
def ptAll (b : UInt8) (s : ByteArray) : List ByteArray := (ptTo b s s.size).1 ++ [s.extract (ptTo b s s.size).2 s.size]
set_option maxHeartbeats 4000000 in
set_option maxRecDepth 100000 in
theorem l01Split_c (s : ByteArray) (hs : s.size ≤ 1048576) (b : UInt8) (w : World) : Calls Tryd.prog 63 #[.string s, .int .u8 (b.toNat : Int)] w fun e w' => ∃ v, e = .returned v ∧ Own eS 1 w' w.heap.size 9 v (ptAll b s) ∧ Below w.heap.size w w' := by
  have HO := Lib.hid (show Own eS 1 (w.alloc (.cells #[] 9)) w.heap.size 9 (.slice (some ⟨w.heap.size, 0, none⟩) 0 0) ([] : List ByteArray) from own_empty w _)
  have HB := Lib.hid (below_alloc1 w (.cells #[] 9))
  go_enter Tryd.func63, Tryd.ntmps63
  go_wp2
  go_loopw [5, 6, 7] (fun v a i wr => ∃ k : Nat, k ≤ s.size ∧ i = .int .i64 (k : Int) ∧ a = .int .i64 ((ptTo b s k).2 : Int) ∧ Own eS 1 wr w.heap.size 9 v (ptTo b s k).1 ∧ Below w.heap.size w wr) (fun _ _ i _ => s.size - (intOf i).toNat)
  case atStart => exact ⟨0, by omega, rfl, rfl, HO.out, HB.out⟩
  case round =>
    obtain ⟨k, hk, rfl, rfl, ho, hb⟩ := hrel
    have hsz := hb.size
    have HO1 := Lib.hid ho
    have HB1 := Lib.hid hb
    obtain ⟨p1, p2⟩ := ptTo_le b s k
    clear ho hb
    by_cases hlt : k < s.size
    · have j0 : (0 : Int) ≤ (k : Int) := by omega
      have j1 : (k : Int) < (s.size : Int) := by omega
      have j2 : (k : Int) ≤ (s.size : Int) := by omega
      by_cases hq : s[k]'hlt = b
      · have HP := Lib.hid (ptTo_yes hlt hq)
        have hbq : (((s[k]'hlt).toNat : Int) == (b.toNat : Int)) = true := by rw [hq]; exact beq_self_eq_true _
        clear hq
        have j3 : (0 : Int) ≤ ((ptTo b s k).2 : Int) := by omega
        have j4 : ((ptTo b s k).2 : Int) ≤ (k : Int) := by omega
        go_wp2_with (at_builtin; refine appStr _ _ rfl rfl _ (ptTo b s k).1 (s.extract (ptTo b s k).2 k) rfl HO1.out HB1.out rfl (by simp) (by omega) ?_; intro v3 w3 hown3 hb3; have HO3 := Lib.hid hown3; have HB3 := Lib.hid hb3; clear hown3 hb3)
        go_roundw
        case rel => exact ⟨k + 1, by omega, by go_num, by rw [HP.out]; go_num, by rw [HP.out]; exact HO3.out, HB3.out⟩
        case measure => simp [intOf]; omega
      · have HP := Lib.hid (ptTo_no hlt hq)
        have hbq : (((s[k]'hlt).toNat : Int) == (b.toNat : Int)) = false := beq_eq_false_iff_ne.2 (fun h => hq (UInt8.toNat_inj.1 (by omega)))
        clear hq
        go_wp2
        go_roundw
        case rel => exact ⟨k + 1, by omega, by go_num, by rw [HP.out], by rw [HP.out]; exact HO1.out, HB1.out⟩
        case measure => simp [intOf]; omega
    · obtain rfl : k = s.size := by omega
      have j3 : (0 : Int) ≤ ((ptTo b s s.size).2 : Int) := by omega
      have j4 : ((ptTo b s s.size).2 : Int) ≤ (s.size : Int) := by omega
      go_wp2_with (at_builtin; refine appStr _ _ rfl rfl _ (ptTo b s s.size).1 (s.extract (ptTo b s s.size).2 s.size) rfl HO1.out HB1.out rfl (by simp) (by omega) ?_; intro v3 w3 hown3 hb3; have HO3 := Lib.hid hown3; have HB3 := Lib.hid hb3; clear hown3 hb3)
      go_ret
      exact ⟨_, rfl, HO3.out, HB3.out⟩

end Go.Proofs.YtcdpgdpabmlpdaaDoor
