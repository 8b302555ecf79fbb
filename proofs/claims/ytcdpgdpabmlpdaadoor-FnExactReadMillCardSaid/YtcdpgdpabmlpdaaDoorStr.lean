/- Decimal numerals: the program's by the library's contract, the reference's by a walk. -/
import Derived.Test.YtcdpgdpabmlpdaaDoorNum
import Derived.Test.YtcdpgdpabmlpdaaDoorShelf
import Derived.Lib.ItoaLen
import Derived.Sort.Grow
import Derived.Lib.LaidTab
import Derived.Lib.QuietBelow
namespace Go.Proofs.YtcdpgdpabmlpdaaDoor
open Go.RowKit

/-- a number in decimal, as bytes: a name of its own, so that the walk leaves it whole -/
def decS (n : Int) : ByteArray := ⟨(Lib.itoa n).toArray⟩
theorem decS_size (n : Int) (h0 : -9223372036854775808 ≤ n) (h1 : n ≤ 9223372036854775807) : (decS n).size ≤ 21 := by
  have := Lib.itoa_length_le n h0 h1
  simpa [decS, ByteArray.size] using this
/-- the table that the library's numerals read -/
def Pow (w : World) : Prop := Lib.TabIs Tryd.prog w "internal/strconv.uint64pow10" .u64 Lib.pow10Tab
theorem gPow : Tryd.prog.globalNamed "internal/strconv.uint64pow10" = some 0 := by kernel_rfl
theorem Pow.below {w w' : World} (h : Pow w) (hb : Below w.heap.size w w') : Pow w' := by
  unfold Pow Lib.TabIs World.var? at h ⊢
  rw [gPow] at h ⊢
  simp only [Option.bind_some] at h ⊢
  have hlt : 0 < w.heap.size := by
    rcases Nat.lt_or_ge 0 w.heap.size with h' | h'
    · exact h'
    · rw [Array.getElem?_eq_none h'] at h; cases h
  rw [hb.block 0 hlt]
  exact h
theorem below_grow_dN (w : World) (k : Nat) (os : Array Obj) : Below w.heap.size w (Sort.grow (w.drewN k) os) := below_regrown w (w.drawn + k) os

theorem Decimal_c (n : Int) (w : World) (h0 : -9223372036854775808 ≤ n) (h1 : n ≤ 9223372036854775807) (hp : Pow w) :
    Calls Tryd.prog 46 #[.int .i64 n] w fun e w' => e = .returned (.string (decS n)) ∧ Below w.heap.size w w' := by
  have HP := Lib.hid hp
  clear hp
  go_enter Tryd.func46, Tryd.ntmps46
  go_wp2_with fail
  refine (Tryd.strconv_FormatInt_10 n h0 h1 _ HP.out).mono ?_
  rintro e w1 ⟨rfl, k, os, rfl⟩
  have hb := below_grow_dN w k os
  generalize Sort.grow (w.drewN k) os = w1 at *
  go_wp2
  go_ret
  exact ⟨rfl, hb⟩

abbrev eu : UInt8 → List Value := fun c => [.int .u8 (c.toNat : Int)]
theorem len_eu (c : UInt8) : (eu c).length = 1 := rfl
/-- the digits, none for 0 -/
def dd (u : Nat) : List UInt8 := if u = 0 then [] else Lib.decDigits u
theorem dd_zero : dd 0 = [] := rfl
theorem dd_step {u : Nat} (h : 0 < u) : dd u = dd (u / 10) ++ [UInt8.ofNat (48 + u % 10)] := by
  unfold dd
  rw [if_neg (by omega)]
  by_cases h1 : u < 10
  · rw [Lib.decDigits, dif_pos h1, if_pos (by omega), Nat.mod_eq_of_lt h1]; rfl
  · rw [Lib.decDigits, dif_neg h1, if_neg (by omega)]
theorem dd_len (u : Nat) : (dd u).length ≤ u := by
  induction u using Nat.strongRecOn with
  | _ u ih =>
    rcases Nat.eq_zero_or_pos u with rfl | h
    · simp [dd]
    · rw [dd_step h, List.length_append, List.length_singleton]
      have := ih (u / 10) (by omega)
      omega
theorem dd_len20 {u : Nat} (h : u ≤ 9223372036854775808) : (dd u).length ≤ 20 := by
  unfold dd
  split
  · simp
  · rw [Lib.decDigits_length]; exact Lib.nDigits_le20 u (by omega)
theorem dd_pos {u : Nat} (h : 0 < u) : dd u = Lib.decDigits u := by rw [dd, if_neg (by omega)]
theorem u8_digit {r : Nat} (h : r < 10) : ((UInt8.ofNat (48 + r)).toNat : Int) = 48 + (r : Int) := by
  have : (UInt8.ofNat (48 + r)).toNat = 48 + r := by simp [UInt8.toNat_ofNat']; omega
  rw [this]; omega
theorem tmod10 (u : Nat) : (u : Int).tmod 10 = ((u % 10 : Nat) : Int) := by rw [Int.tmod_eq_emod_of_nonneg (by omega)]; omega
theorem tdiv10 (u : Nat) : (u : Int).tdiv 10 = ((u / 10 : Nat) : Int) := by rw [Int.tdiv_eq_ediv_of_nonneg (by omega)]; omega
theorem tmod10n (u : Nat) : (-(u : Int)).tmod 10 = -((u % 10 : Nat) : Int) := by rw [Int.neg_tmod, tmod10]
theorem tdiv10n (u : Nat) : (-(u : Int)).tdiv 10 = -((u / 10 : Nat) : Int) := by rw [Int.neg_tdiv, tdiv10]
theorem infoU8 : (Tryd.prog.info? 5).map (fun i => (i.zero, i.size, i.bytes)) = some (some (.int .u8 0), 1, 1) := by kernel_rfl
theorem addr_add (b off n : Nat) : (⟨b, off, none⟩ : Addr).add n = ⟨b, off + n, none⟩ := by unfold Addr.add; split <;> simp_all
/-- append of bytes that are there, behind bytes of the call's own -/
theorem appSU8 {ops : Array Oper} {rest : List Oper} {o : Oper} {a : Act} {Q : Exit → Act → World → Prop} {w0 wr : World} (s x : Operand) (hgd : o.guard = none) (ho : o.op = .call { callee := .builtin .append, args := #[s, x], argTypes := #[84, 84] })
    (v : Value) (L M : List UInt8) (hv : a.eval s = v) (hown : Own eu 1 wr w0.heap.size 5 v L) (hb : Below w0.heap.size w0 wr) {g c base : Nat} (hx : a.eval x = .slice (some ⟨g, 0, none⟩) M.length c) (hR : Own eu 1 wr base 5 (.slice (some ⟨g, 0, none⟩) M.length c) M) (hl : L.length + M.length ≤ 1000000000)
    (h : ∀ v' w', Own eu 1 w' w0.heap.size 5 v' (L ++ M) → Below w0.heap.size w0 w' → wpList Tryd.prog ops Q rest (a.put o.dst v') w') : wpList Tryd.prog ops Q (o :: rest) a wr := by
  obtain ⟨i0, hi, hz0, hz1, hz2⟩ := info_parts infoU8
  have hsz1 := hb.size
  refine wpList_append_own wr hgd s x 84 ho w0.heap.size 5 i0 _ 1 1 Tryd.underlying84 hi hz0 hz1 hz2 rfl (by decide) v L.length (L.flatMap eu) hv hown ⟨g, 0, none⟩ M.length c (M.flatMap eu) hx (flatMap_len len_eu M) ?_ (fun u hu => by obtain ⟨y, _, hy⟩ := List.mem_flatMap.1 hu; simp only [List.mem_cons, List.not_mem_nil, or_false] at hy; rw [hy]; rfl) (by unfold maxLen; omega) (by omega) hsz1 ?_
  · intro j u hu
    obtain ⟨k, hk, r, rfl, hr⟩ := flatMap_inv len_eu M j u hu
    obtain ⟨b, off, e, hbB, hc⟩ := Own.rd_ len_eu hR rfl (by omega)
    simp only [Option.some.injEq, Addr.mk.injEq, and_true] at e
    obtain ⟨rfl, rfl⟩ := e
    rw [addr_add, ← Nat.add_assoc]
    exact hc k hk r u hr
  · intro v' w' hown' hg _
    refine h v' w' ?_ (hb.grown hg hsz1 (fun k hk => (hown.lt k hk).1))
    have e : (L ++ M).flatMap eu = L.flatMap eu ++ M.flatMap eu := by simp
    have e2 : (L ++ M).length = L.length + M.length := by simp
    unfold Own
    rw [e, e2]
    exact hown'
theorem own_bytes {w : World} {base g c : Nat} {L : List UInt8} (h : Own eu 1 w base 5 (.slice (some ⟨g, 0, none⟩) L.length c) L) : (convert 84 9 (.slice (some ⟨g, 0, none⟩) L.length c)).run Tryd.prog w = .ok (.string ⟨L.toArray⟩) w := by
  refine run_convert_bytes_back w 84 9 5 ⟨g, 0, none⟩ c L Tryd.underlying84 Tryd.underlying5 Tryd.underlying9 ?_
  intro j hj
  obtain ⟨b, off, e, hbB, hc⟩ := Own.rd_ len_eu h rfl (by omega)
  simp only [Option.some.injEq, Addr.mk.injEq, and_true] at e
  obtain ⟨rfl, rfl⟩ := e
  have h1 := hc j hj 0 _ rfl
  rw [addr_add]
  rw [Nat.mul_one, Nat.add_zero] at h1
  exact h1
theorem ret_str {a b : ByteArray} (h : a = b) : Ending.returned (.string a) = .returned (.string b) := by rw [h]
theorem nDigits_pos (u : Nat) : 0 < Lib.nDigits u := by rw [Lib.nDigits]; split <;> omega
theorem own_some {w : World} {base : Nat} {E : TypeId} {v : Value} {L : List UInt8} (h : Own eu 1 w base E v L) (h0 : 0 < L.length) : ∃ g c, v = .slice (some ⟨g, 0, none⟩) L.length c := by
  obtain ⟨A, c, rfl⟩ := own_form h
  obtain ⟨g, rest, rfl, _⟩ := Own.blk h h0
  exact ⟨g, c, rfl⟩

theorem own_one (wr : World) {base r : Nat} (hr : r < 10) (hb : base ≤ wr.heap.size) : Own eu 1 (wr.alloc (.cells #[.int .u8 (48 + (r : Int))] 5)) base 5 (.slice (some ⟨wr.heap.size, 0, none⟩) 1 1) [UInt8.ofNat (48 + r)] := by
  have h := Blk.new wr 5 #[.int .u8 (48 + (r : Int))]
  have e : ([Value.int .u8 (48 + (r : Int))] : List Value) = [UInt8.ofNat (48 + r)].flatMap eu := by
    show [Value.int .u8 (48 + (r : Int))] = [Value.int .u8 ((UInt8.ofNat (48 + r)).toNat : Int)]
    rw [u8_digit hr]
  have h2 : Blk (wr.alloc (.cells #[.int .u8 (48 + (r : Int))] 5)) wr.heap.size 5 ([UInt8.ofNat (48 + r)].flatMap eu) := by rw [← e]; exact h
  exact Blk.own len_eu h2 hb (by unfold maxLen; simp)
theorem own_zero (wr : World) {base : Nat} (hb : base ≤ wr.heap.size) : Own eu 1 (wr.alloc (.cells #[.int .u8 48] 5)) base 5 (.slice (some ⟨wr.heap.size, 0, none⟩) 1 1) [UInt8.ofNat (48 + 0)] := by
  have h := own_one wr (r := 0) (by omega) hb
  exact h
def decP (U : Nat) : ByteArray := if U = 0 then ⟨#[48]⟩ else ⟨(dd U).toArray⟩
theorem decP_pos {U : Nat} (h : 0 < U) : decP U = ⟨(dd U).toArray⟩ := by rw [decP, if_neg (by omega)]

set_option maxHeartbeats 4000000 in
set_option maxRecDepth 100000 in
theorem l01Dec_p (U : Nat) (h1 : U ≤ 9223372036854775807) (w : World) :
    Calls Tryd.prog 51 #[.int .i64 (U : Int)] w fun e w' => e = .returned (.string (decP U)) ∧ Below w.heap.size w w' := by
  go_enter Tryd.func51, Tryd.ntmps51
  go_wp2
  go_loopw [3, 4] (fun v k wr => ∃ (u : Nat) (L : List UInt8) (g c : Nat), u ≤ U ∧ k = .int .i64 (u : Int) ∧ v = .slice (some ⟨g, 0, none⟩) L.length c ∧ Hid (dd u ++ L = dd U) ∧ Own eu 1 wr w.heap.size 5 (.slice (some ⟨g, 0, none⟩) L.length c) L ∧ Below w.heap.size w wr) (fun _ k _ => (intOf k).natAbs)
  case atStart => exact ⟨U, [], w.heap.size, 0, Nat.le_refl _, rfl, rfl, Lib.hid (by rw [List.append_nil]), own_empty w 5, below_alloc1 w _⟩
  case round =>
    obtain ⟨u, L, g, c, hu, rfl, rfl, HD, ho, hb⟩ := hrel
    have hsz := hb.size
    have HB := Lib.hid hb
    have HO := Lib.hid ho
    have hll : L.length ≤ 20 := by
      have h1' := congrArg List.length HD.out
      rw [List.length_append] at h1'
      have := dd_len20 (u := U) (by omega)
      omega
    clear hb ho
    rcases Nat.eq_zero_or_pos u with rfl | hpos
    · have HE := Lib.hid (show L = dd U by have := HD.out; rwa [dd_zero, List.nil_append] at this)
      rcases Nat.eq_zero_or_pos U with rfl | hU
      · have hl0 : L = [] := by rw [HE.out]; rfl
        subst hl0
        clear HE HD hll
        go_wp2
        go_ret
        exact ⟨rfl, HB.out⟩
      have hlp : 0 < L.length := by rw [HE.out, dd_pos hU, Lib.decDigits_length]; exact nDigits_pos U
      have hov := own_bytes HO.out
      have HIF := Lib.hid (show decP U = ⟨L.toArray⟩ by rw [decP_pos hU, HE.out])
      go_wp2
      go_ret
      exact ⟨ret_str HIF.out.symm, HB.out⟩
    · obtain ⟨r, hr⟩ : ∃ r, u % 10 = r := ⟨_, rfl⟩
      have hr9 : r < 10 := by omega
      have q1 : ((u : Int)).tdiv 10 = ((u / 10 : Nat) : Int) := tdiv10 u
      have hne : (((u : Int)) != 0) = true := by simp; omega
      have HD2 : Hid (dd (u / 10) ++ ([UInt8.ofNat (48 + r)] ++ L) = dd U) := Lib.hid (by rw [← HD.out, dd_step hpos, hr, List.append_assoc])
      have HOK := Lib.hid (own_one wr hr9 hsz)
      clear HD
      have m1 : ((u : Int)).tmod 10 = (r : Int) := by rw [tmod10, hr]
      go_wp2_with (at_builtin; refine appSU8 _ _ rfl rfl _ [UInt8.ofNat (48 + r)] L rfl HOK.out (HB.out.alloc hsz _) rfl (HO.out.call (below_alloc1 wr _)) (by simp only [List.length_cons, List.length_nil]; omega) ?_; intro v2 w2 hown2 hb2; obtain ⟨g2, c2, e2'⟩ := own_some hown2 (by simp); subst e2'; have HO2 := Lib.hid hown2; clear hown2)
      go_roundw
      case rel => exact ⟨u / 10, [UInt8.ofNat (48 + r)] ++ L, g2, c2, by omega, congrArg (Value.int .i64) (by omega), rfl, HD2, HO2.out, hb2⟩
      case measure => simp only [intOf]; omega

set_option maxHeartbeats 4000000 in
set_option maxRecDepth 100000 in
theorem l01Dec_n (U : Nat) (h0 : 0 < U) (h1 : U ≤ 9223372036854775808) (w : World) :
    Calls Tryd.prog 51 #[.int .i64 (-(U : Int))] w fun e w' => e = .returned (.string (⟨#[45]⟩ ++ ⟨(dd U).toArray⟩)) ∧ Below w.heap.size w w' := by
  go_enter Tryd.func51, Tryd.ntmps51
  go_wp2
  go_loopw [3, 4] (fun v k wr => ∃ (u : Nat) (L : List UInt8) (g c : Nat), u ≤ U ∧ k = .int .i64 (-(u : Int)) ∧ v = .slice (some ⟨g, 0, none⟩) L.length c ∧ Hid (dd u ++ L = dd U) ∧ Own eu 1 wr w.heap.size 5 (.slice (some ⟨g, 0, none⟩) L.length c) L ∧ Below w.heap.size w wr) (fun _ k _ => (intOf k).natAbs)
  case atStart => exact ⟨U, [], w.heap.size, 0, Nat.le_refl _, rfl, rfl, Lib.hid (by rw [List.append_nil]), own_empty w 5, below_alloc1 w _⟩
  case round =>
    obtain ⟨u, L, g, c, hu, rfl, rfl, HD, ho, hb⟩ := hrel
    have hsz := hb.size
    have HB := Lib.hid hb
    have HO := Lib.hid ho
    have hll : L.length ≤ 20 := by
      have h1' := congrArg List.length HD.out
      rw [List.length_append] at h1'
      have := dd_len20 (u := U) (by omega)
      omega
    clear hb ho
    rcases Nat.eq_zero_or_pos u with rfl | hpos
    · have HE := Lib.hid (show L = dd U by have := HD.out; rwa [dd_zero, List.nil_append] at this)
      have hlp : 0 < L.length := by rw [HE.out, dd_pos h0, Lib.decDigits_length]; exact nDigits_pos U
      have hneg : -(U : Int) < 0 := by omega
      have hov := own_bytes HO.out
      go_wp2
      go_ret
      exact ⟨ret_str (by rw [HE.out]), HB.out⟩
    · obtain ⟨r, hr⟩ : ∃ r, u % 10 = r := ⟨_, rfl⟩
      have hr9 : r < 10 := by omega
      have q1 : ((-(u : Int))).tdiv 10 = (-((u / 10 : Nat) : Int)) := tdiv10n u
      have hne : (((-(u : Int))) != 0) = true := by simp; omega
      have HD2 : Hid (dd (u / 10) ++ ([UInt8.ofNat (48 + r)] ++ L) = dd U) := Lib.hid (by rw [← HD.out, dd_step hpos, hr, List.append_assoc])
      have HOK := Lib.hid (own_one wr hr9 hsz)
      clear HD
      rcases Nat.eq_zero_or_pos r with rfl | hr0
      · have m1 : ((-(u : Int))).tmod 10 = 0 := by rw [tmod10n, hr]; rfl
        have HOK := Lib.hid (own_zero wr hsz)
        go_wp2_with (at_builtin; refine appSU8 _ _ rfl rfl _ [UInt8.ofNat (48 + 0)] L rfl HOK.out (HB.out.alloc hsz _) rfl (HO.out.call (below_alloc1 wr _)) (by simp only [List.length_cons, List.length_nil]; omega) ?_; intro v2 w2 hown2 hb2; obtain ⟨g2, c2, e2'⟩ := own_some hown2 (by simp); subst e2'; have HO2 := Lib.hid hown2; clear hown2)
        go_roundw
        case rel => exact ⟨u / 10, [UInt8.ofNat (48 + 0)] ++ L, g2, c2, by omega, congrArg (Value.int .i64) (by omega), rfl, HD2, HO2.out, hb2⟩
        case measure => simp only [intOf]; omega

      · have m1 : ((-(u : Int))).tmod 10 = (-(r : Int)) := by rw [tmod10n, hr]
        have hneg : (-(r : Int)) < 0 := by omega
        go_wp2_with (at_builtin; refine appSU8 _ _ rfl rfl _ [UInt8.ofNat (48 + r)] L rfl HOK.out (HB.out.alloc hsz _) rfl (HO.out.call (below_alloc1 wr _)) (by simp only [List.length_cons, List.length_nil]; omega) ?_; intro v2 w2 hown2 hb2; obtain ⟨g2, c2, e2'⟩ := own_some hown2 (by simp); subst e2'; have HO2 := Lib.hid hown2; clear hown2)
        go_roundw
        case rel => exact ⟨u / 10, [UInt8.ofNat (48 + r)] ++ L, g2, c2, by omega, congrArg (Value.int .i64) (by omega), rfl, HD2, HO2.out, hb2⟩
        case measure => simp only [intOf]; omega


theorem l01Dec_c (n : Int) (w : World) (h0 : -9223372036854775808 ≤ n) (h1 : n ≤ 9223372036854775807) :
    Calls Tryd.prog 51 #[.int .i64 n] w fun e w' => e = .returned (.string (decS n)) ∧ Below w.heap.size w w' := by
  by_cases hn : n < 0
  · obtain ⟨U, rfl⟩ : ∃ U : Nat, n = -(U : Int) := ⟨n.natAbs, by omega⟩
    have e : decS (-(U : Int)) = ⟨#[45]⟩ ++ ⟨(dd U).toArray⟩ := by
      rw [decS, Lib.itoa, if_pos hn, dd_pos (by omega), Int.natAbs_neg, Int.natAbs_natCast]
      exact (ByteArray.mk_append_mk [45] (Lib.decDigits U)).symm
    rw [e]
    exact l01Dec_n U (by omega) (by omega) w
  · obtain ⟨U, rfl⟩ : ∃ U : Nat, n = (U : Int) := ⟨n.toNat, by omega⟩
    have e : decS (U : Int) = decP U := by
      rw [decS, Lib.itoa, if_neg hn, Int.toNat_natCast, decP]
      split
      · rename_i h; subst h; rw [Lib.decDigits, dif_pos (by omega)]; rfl
      · rename_i h; rw [dd_pos (by omega)]
    rw [e]
    exact l01Dec_p U (by omega) w

end Go.Proofs.YtcdpgdpabmlpdaaDoor
