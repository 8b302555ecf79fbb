/- The program's reading of numbers. -/
import Derived.Test.YtcdpgdpabmlpdaaDoorRd
import Derived.Test.YtcdpgdpabmlpdaaDoorApp
import Derived.Test.YtcdpgdpabmlpdaaDoorShelf
namespace Go.Proofs.YtcdpgdpabmlpdaaDoor
open Go.RowKit

/-- what the reading of numbers wants of the world: the table of powers, the two errors -/
structure RdW (w : World) : Prop where
  pow : Pow w
  syn : ∃ tp p, w.var? Tryd.prog "strconv.ErrSyntax" = some #[.iface tp p]
  rng : ∃ tp p, w.var? Tryd.prog "strconv.ErrRange" = some #[.iface tp p]
def nonNum (c : Nat) : Bool := decide (c ≠ 45 ∧ (c < 48 ∨ 57 < c))

set_option maxHeartbeats 1000000 in
theorem nonNum_c (x : Nat) (hx : x ≤ 1114111) (w : World) : Calls Tryd.prog 79 #[.int .i32 (x : Int)] w fun e w' => e = .returned (.bool (nonNum x)) ∧ w = w' := by
  by_cases h0 : x = 45
  · have HV := Lib.hid (show nonNum x = false by simp [nonNum, h0])
    subst h0
    go_enter Tryd.func79, Tryd.ntmps79
    go_wp2
    go_ret
    exact ⟨ret_bool HV.out.symm, rfl⟩
  have hb : ((x : Int) != 45) = true := bne_iff_ne.2 (by omega)
  have hb2 : ¬ (x : Int) = 45 := by omega
  by_cases h1 : x < 48
  · have HV := Lib.hid (show nonNum x = true by simp [nonNum, h0, h1])
    have h1' : (x : Int) < 48 := by omega
    clear h0 h1
    go_enter Tryd.func79, Tryd.ntmps79
    go_wp2
    go_ret
    exact ⟨ret_bool HV.out.symm, rfl⟩
  have h1' : ¬ (x : Int) < 48 := by omega
  by_cases h2 : 57 < x
  · have HV := Lib.hid (show nonNum x = true by simp [nonNum, h0, h2])
    have h2' : (57 : Int) < (x : Int) := by omega
    clear h0 h1 h2
    go_enter Tryd.func79, Tryd.ntmps79
    go_wp2
    go_ret
    exact ⟨ret_bool HV.out.symm, rfl⟩
  · have HV := Lib.hid (show nonNum x = false by simp [nonNum, h0, h1, h2])
    have h2' : ¬ (57 : Int) < (x : Int) := by omega
    clear h0 h1 h2
    go_enter Tryd.func79, Tryd.ntmps79
    go_wp2
    go_ret
    exact ⟨ret_bool HV.out.symm, rfl⟩
theorem nonNum_at (w : World) : PredAtRunes Tryd.prog 79 #[] nonNum w := fun W x hx _ =>
  (nonNum_c x hx W).mono fun e w' ⟨h, k⟩ => ⟨h, 0, by rw [← k]; rfl⟩

def rdI (s : ByteArray) : Int := (numO s.data.toList).getD 0
def rdB (s : ByteArray) : Bool := (numO s.data.toList).isSome
theorem bytes_below {w w' : World} (h : w' = w ∨ ∃ t, w' = Lib.bytesWorld w 5 t) : Below w.heap.size w w' := by
  rcases h with rfl | ⟨t, rfl⟩
  · exact Below.refl _ _
  · exact ⟨rfl, rfl, rfl, by rw [Lib.bytesWorld_size]; omega, fun k hk => Lib.bytesWorld_at_old w 5 t k hk⟩
theorem str_eq {a b : ByteArray} (h : a.data.toList = b.data.toList) : (a.toList == b.toList) = true := by
  rw [ByteArray.toList_eq, ByteArray.toList_eq, h]; exact beq_self_eq_true _
theorem str_ne {a b : ByteArray} (h : ¬ a.data.toList = b.data.toList) : (a.toList == b.toList) = false := by
  rw [ByteArray.toList_eq, ByteArray.toList_eq]; exact beq_eq_false_iff_ne.2 h
theorem decS_data (v : Int) : (decS v).data.toList = Lib.itoa v := by simp [decS]
theorem var_below {n : String} {cs : Array Value} {w w' : World} (h : w.var? Tryd.prog n = some cs) (hb : Below w.heap.size w w') : w'.var? Tryd.prog n = some cs := by
  unfold World.var? at h ⊢
  cases hg : Tryd.prog.globalNamed n with
  | none => rw [hg] at h; cases h
  | some g =>
    rw [hg] at h
    simp only [Option.bind_some] at h ⊢
    have hlt : g < w.heap.size := by
      rcases Nat.lt_or_ge g w.heap.size with h' | h'
      · exact h'
      · rw [Array.getElem?_eq_none h'] at h; cases h
    rw [hb.block g hlt]
    exact h
theorem RdW.below {w w' : World} (h : RdW w) (hb : Below w.heap.size w w') : RdW w' :=
  ⟨h.pow.below hb, let ⟨tp, p, hv⟩ := h.syn; ⟨tp, p, var_below hv hb⟩, let ⟨tp, p, hv⟩ := h.rng; ⟨tp, p, var_below hv hb⟩⟩
set_option maxHeartbeats 1000000 in
theorem ReadDecimal_c (s : ByteArray) (hs : s.size ≤ 1048576) (w : World) (hW : RdW w) : Calls Tryd.prog 80 #[.string s] w fun e w' => e = .returned (.tuple #[.int .i64 (rdI s), .bool (rdB s)]) ∧ Below w.heap.size w w' := by
  have HW := Lib.hid hW
  have hrd := rd_num s.data.toList
  unfold rdO at hrd
  have none_c : numO s.data.toList = none → rdI s = 0 ∧ rdB s = false := fun h => by unfold rdI rdB; rw [h]; exact ⟨rfl, rfl⟩
  cases hp : Lib.parseIntB 64 s.data.toList
  case ok v =>
    rw [hp] at hrd
    simp only [] at hrd
    have HP := Lib.hid hp
    obtain ⟨b0, b1⟩ := Lib.parseIntB_bounds hp
    have hv0 : -9223372036854775808 ≤ v := by simpa using b0
    have hv1 : v ≤ 9223372036854775807 := by
      have : v < 9223372036854775808 := by simpa using b1
      omega
    clear hp hW b0 b1
    by_cases h1 : Lib.itoa v = s.data.toList
    · have hq : ((decS v).toList == s.toList) = true := str_eq (by rw [decS_data]; exact h1)
      by_cases h2 : (Lib.trimPrefix s.data.toList [45]).length ≤ 18
      · have hval : rdI s = v ∧ rdB s = true := by rw [if_pos ⟨h1, h2⟩] at hrd; unfold rdI rdB; rw [← hrd]; exact ⟨rfl, rfl⟩
        have HV := Lib.hid hval
        have h2' : ¬ (18 : Int) < ((Lib.trimPrefix s.data.toList [45]).length : Int) := by omega
        clear hval h1 h2 hrd none_c
        go_enter Tryd.func80, Tryd.ntmps80
        go_wp2_with fail
        refine (Tryd.strconv_ParseInt_10_at64_ok s (by omega) v HP.out _).mono ?_
        rintro e w1 ⟨rfl, hb1⟩
        have hb := bytes_below hb1
        clear hb1
        go_wp2_with fail
        refine (Decimal_c v _ hv0 hv1 (HW.out.pow.below hb)).mono ?_
        rintro e w2 ⟨rfl, hb2⟩
        have HB := Lib.hid (bel_call hb hb2 hb.size)
        clear hb hb2
        go_wp2_with fail
        refine (Tryd.strings_TrimPrefix s ⟨#[45]⟩ _).mono ?_
        rintro e w3 ⟨rfl, rfl⟩
        go_wp2
        go_ret2
        exact ⟨by rw [HV.out.1, HV.out.2]; rfl, HB.out⟩
      · have hval := none_c (by rw [← hrd]; exact if_neg (fun h => h2 h.2))
        have HV := Lib.hid hval
        have h2' : (18 : Int) < ((Lib.trimPrefix s.data.toList [45]).length : Int) := by omega
        clear hval h1 h2 hrd none_c
        go_enter Tryd.func80, Tryd.ntmps80
        go_wp2_with fail
        refine (Tryd.strconv_ParseInt_10_at64_ok s (by omega) v HP.out _).mono ?_
        rintro e w1 ⟨rfl, hb1⟩
        have hb := bytes_below hb1
        clear hb1
        go_wp2_with fail
        refine (Decimal_c v _ hv0 hv1 (HW.out.pow.below hb)).mono ?_
        rintro e w2 ⟨rfl, hb2⟩
        have HB := Lib.hid (bel_call hb hb2 hb.size)
        clear hb hb2
        go_wp2_with fail
        refine (Tryd.strings_TrimPrefix s ⟨#[45]⟩ _).mono ?_
        rintro e w3 ⟨rfl, rfl⟩
        go_wp2
        go_ret2
        exact ⟨by rw [HV.out.1, HV.out.2]; rfl, HB.out⟩
    · have hq : ((decS v).toList == s.toList) = false := str_ne (by rw [decS_data]; exact h1)
      have hval := none_c (by rw [← hrd]; exact if_neg (fun h => h1 h.1))
      have HV := Lib.hid hval
      clear hval h1 hrd none_c
      go_enter Tryd.func80, Tryd.ntmps80
      go_wp2_with fail
      refine (Tryd.strconv_ParseInt_10_at64_ok s (by omega) v HP.out _).mono ?_
      rintro e w1 ⟨rfl, hb1⟩
      have hb := bytes_below hb1
      clear hb1
      go_wp2_with fail
      refine (Decimal_c v _ hv0 hv1 (HW.out.pow.below hb)).mono ?_
      rintro e w2 ⟨rfl, hb2⟩
      have HB := Lib.hid (bel_call hb hb2 hb.size)
      clear hb hb2
      go_wp2
      go_ret2
      exact ⟨by rw [HV.out.1, HV.out.2]; rfl, HB.out⟩
  case range =>
    rw [hp] at hrd
    simp only [] at hrd
    have HV := Lib.hid (none_c hrd.symm)
    have HP := Lib.hid hp
    obtain ⟨tp, p, hv⟩ := hW.rng
    have HE := Lib.hid hv
    clear hrd none_c hp hv hW
    go_enter Tryd.func80, Tryd.ntmps80
    go_wp2_with fail
    refine (Tryd.strconv_ParseInt_10_at64_range_var s (by omega) HP.out tp p _ HE.out).mono ?_
    rintro e w1 ⟨N, rfl, _, _, hb⟩
    generalize Lib.intSat 64 s.data.toList = sat at *
    go_wp2
    go_ret2
    exact ⟨by rw [HV.out.1, HV.out.2]; rfl, hb⟩
  rw [hp] at hrd
  simp only [] at hrd
  have HV := Lib.hid (none_c hrd.symm)
  have HP := Lib.hid hp
  obtain ⟨tp, p, hv⟩ := hW.syn
  have HE := Lib.hid hv
  clear hrd none_c hp hv hW
  go_enter Tryd.func80, Tryd.ntmps80
  go_wp2_with fail
  refine (Tryd.strconv_ParseInt_10_at64_syntax_var s (by omega) HP.out tp p _ HE.out).mono ?_
  rintro e w1 ⟨N, rfl, _, _, hb⟩
  go_wp2
  go_ret2
  exact ⟨by rw [HV.out.1, HV.out.2]; rfl, hb⟩

abbrev eS : ByteArray → List Value := fun x => [.string x]
theorem len_eS (x : ByteArray) : (eS x).length = 1 := rfl
theorem map_eS (L : List ByteArray) : L.map Value.string = L.flatMap eS := by
  induction L with
  | nil => rfl
  | cons x L ih => rw [List.map_cons, List.flatMap_cons, ih]; rfl
def fldB (s : ByteArray) : List ByteArray := Lib.goFieldsP nonNum s
def numsB (s : ByteArray) : List Int := if (fldB s).all rdB then (fldB s).map rdI else []
theorem fld_size (s x : ByteArray) (h : x ∈ fldB s) : x.size ≤ s.size := by
  unfold fldB Lib.goFieldsP at h
  obtain ⟨y, _, rfl⟩ := List.mem_map.1 h
  rw [ByteArray.size_extract]
  omega
theorem spans_len (P : Nat → Bool) (s : ByteArray) : ∀ (f pos : Nat) (st : Option Nat) (acc : List (Nat × Nat)), (Lib.closeSpans s (Lib.spansFromP P s f pos st acc)).length ≤ acc.length + (if st.isSome then 1 else 0) + f := by
  intro f
  induction f with
  | zero =>
    intro pos st acc
    cases st <;> simp [Lib.spansFromP, Lib.closeSpans]
  | succ f ih =>
    intro pos st acc
    rw [Lib.spansFromP.eq_def]
    simp only []
    split
    · split
      · cases st with
        | none => have := ih (pos + (Utf8.decode s pos).2) none acc; simp at this ⊢; omega
        | some a => have := ih (pos + (Utf8.decode s pos).2) none (acc ++ [(a, pos)]); simp at this ⊢; omega
      · cases st with
        | none => have := ih (pos + (Utf8.decode s pos).2) (some pos) acc; simp at this ⊢; omega
        | some a => have := ih (pos + (Utf8.decode s pos).2) (some a) acc; simp at this ⊢; omega
    · cases st <;> simp [Lib.closeSpans] <;> omega
theorem fld_len (s : ByteArray) : (fldB s).length ≤ s.size := by
  have h := spans_len nonNum s s.size 0 none []
  unfold fldB Lib.goFieldsP Lib.spansOfP
  rw [List.length_map]
  simpa using h
def nsTo (F : List ByteArray) (k : Nat) : List Int := (F.take k).map rdI
theorem nsTo_succ {F : List ByteArray} {k : Nat} {x : ByteArray} (h : F[k]? = some x) : nsTo F (k + 1) = nsTo F k ++ [rdI x] := by
  rw [nsTo, nsTo, List.take_add_one, h, List.map_append]; rfl
theorem nsTo_len (F : List ByteArray) (k : Nat) : (nsTo F k).length ≤ k := by rw [nsTo, List.length_map, List.length_take]; omega
set_option maxHeartbeats 4000000 in
theorem numbersIn_c (s : ByteArray) (hs : s.size ≤ 1048576) (w : World) (hW : RdW w) : Calls Tryd.prog 67 #[.string s] w fun e w' => ∃ v, e = .returned v ∧ Own e1 1 w' w.heap.size 2 v (numsB s) ∧ Below w.heap.size w w' := by
  have HW := Lib.hid hW
  have HSZ := Lib.hid (fun x => fld_size s x)
  have hfl := fld_len s
  have HB0 := Lib.hid (below_alloc1 w (.cells #[] 2))
  clear hW
  go_enter Tryd.func67, Tryd.ntmps67
  go_wp2_with fail
  have cF : Calls Tryd.prog 78 #[.string s, .func (.func 79) #[] #[]] (w.alloc (.cells #[] 2)) fun e w' => ∃ A, e = .returned (.slice (some ⟨A, 0, none⟩) (fldB s).length (fldB s).length) ∧ (w.alloc (.cells #[] 2)).heap.size ≤ A ∧ w'.ownsRow (w.alloc (.cells #[] 2)).heap.size 9 1 (.slice (some ⟨A, 0, none⟩) (fldB s).length (fldB s).length) (fldB s).length ((fldB s).map Value.string) ∧ Below (w.alloc (.cells #[] 2)).heap.size (w.alloc (.cells #[] 2)) w' :=
    Tryd.strings_FieldsFunc_runes 79 #[] (enters_of Tryd.func79 (by kernel_rfl) rfl) nonNum s _ (by omega) (nonNum_at _)
  refine cF.mono ?_
  rintro e w2 ⟨A, rfl, hA, hF, hb2⟩
  have hf2 : Own eS 1 w2 w.heap.size 9 (.slice (some ⟨A, 0, none⟩) (fldB s).length (fldB s).length) (fldB s) := by
    have h := hF
    rw [map_eS] at h
    exact Own.base_ h (below_alloc1 w _).size
  have HF := Lib.hid hf2
  have HL := Lib.hid (show Own e1 1 w2 w.heap.size 2 (.slice (some ⟨w.heap.size, 0, none⟩) 0 0) ([] : List Int) from (own_empty w 2).call hb2)
  have HB2 := Lib.hid (bel_call HB0.out hb2 HB0.out.size)
  have hne : (Value.slice (some ⟨A, 0, none⟩) (fldB s).length (fldB s).length).ownBlock ≠ (Value.slice (some ⟨w.heap.size, 0, none⟩) 0 0).ownBlock := by
    have h2 := (below_alloc1 w (.cells #[] 2)).size
    have h3 : (w.alloc (.cells #[] 2)).heap.size = w.heap.size + 1 := by simp
    intro h
    simp only [Value.ownBlock, Option.some.injEq] at h
    omega
  have HNE := Lib.hid hne
  clear hA hF hb2 hf2 hne
  generalize hFe : fldB s = F at *
  have HFE := Lib.hid hFe
  clear hFe
  go_wp2
  go_loopw [3, 12] (fun v i wr => ∃ k : Nat, k ≤ F.length ∧ i = .int .i64 (k : Int) ∧ Own e1 1 wr w.heap.size 2 v (nsTo F k) ∧ Below w.heap.size w wr ∧ Own eS 1 wr w.heap.size 9 (.slice (some ⟨A, 0, none⟩) F.length F.length) F ∧ ((Value.slice (some ⟨A, 0, none⟩) F.length F.length).ownBlock = none ∨ (Value.slice (some ⟨A, 0, none⟩) F.length F.length).ownBlock ≠ v.ownBlock) ∧ Hid ((F.take k).all rdB = true)) (fun _ i _ => F.length - (intOf i).toNat)
  case atStart => exact ⟨0, by omega, rfl, HL.out, HB2.out, HF.out, .inr HNE.out, rfl⟩
  case round =>
    obtain ⟨k, hk, rfl, ho, hb, hf, ap, HA⟩ := hrel
    have hsz := hb.size
    have HO := Lib.hid ho
    have HB := Lib.hid hb
    have HFO := Lib.hid hf
    have HAP := Lib.hid ap
    clear ho hb hf ap
    by_cases hlt : k < F.length
    · obtain ⟨b, off, hA, hbb, hc⟩ := Own.rd_ len_eS HFO.out rfl (by omega)
      injection hA with hA
      injection hA with hA1 hA2 _
      subst hA1; subst hA2
      have k0 := hc k hlt 0 _ rfl
      rw [Nat.mul_one, Nat.add_zero, Nat.zero_add] at k0
      have HX := Lib.hid (get_at hlt)
      have hxs := HSZ.out F[k] (List.getElem_mem hlt)
      clear hc
      generalize F[k] = x at *
      have j1 : (0 : Int) ≤ (k : Int) := by omega
      have j2 : (k : Int) < (F.length : Int) := by omega
      cases hr : rdB x
      · have hval : numsB s = [] := by
          unfold numsB
          rw [HFE.out, if_neg]
          intro h
          have := List.all_eq_true.1 h x (List.mem_of_getElem? HX.out)
          rw [hr] at this; cases this
        have HV := Lib.hid hval
        clear hval
        go_wp2_with fail
        refine (ReadDecimal_c x (by omega) _ (HW.out.below HB.out)).mono ?_
        rintro e w3 ⟨rfl, hb3⟩
        rw [hr]
        have HB3 := Lib.hid (bel_call HB.out hb3 hsz)
        clear hb3
        go_wp2
        go_ret
        exact ⟨_, rfl, by rw [HV.out]; exact own_empty_at HB3.out.size, HB3.out.alloc HB3.out.size _⟩
      · have HS := Lib.hid (nsTo_succ HX.out)
        have HL1 := Lib.hid (nsTo_len F k)
        have HA1 := Lib.hid (show (F.take (k + 1)).all rdB = true by rw [List.take_add_one, HX.out, List.all_append, HA.out]; simp [hr])
        go_wp2_with fail
        refine (ReadDecimal_c x (by omega) _ (HW.out.below HB.out)).mono ?_
        rintro e w3 ⟨rfl, hb3⟩
        rw [hr]
        have HB3 := Lib.hid (bel_call HB.out hb3 hsz)
        have HO3 := Lib.hid (HO.out.call hb3)
        have HF3 := Lib.hid (HFO.out.call hb3)
        clear hb3
        go_wp2_with (at_builtin; refine app2Int64 _ _ rfl rfl _ (nsTo F k) (rdI x) rfl HO3.out HB3.out rfl (by simp) (by have := HL1.out; omega) ?_; intro v4 w4 hown4 hb4 hg4 hat4; have HO4 := Lib.hid hown4; have HB4 := Lib.hid hb4; have HP4 := Lib.hid (own_other HF3.out HAP.out hg4 hat4); clear hown4 hg4 hat4 hb4)
        go_roundw
        case rel => exact ⟨k + 1, by omega, by go_num, by rw [HS.out]; exact HO4.out, HB4.out, HP4.out.1, HP4.out.2, HA1⟩
        case measure => simp [intOf]; omega
    · obtain rfl : k = F.length := by omega
      have hval : nsTo F F.length = numsB s := by
        have h1 := HA.out
        unfold numsB nsTo
        rw [List.take_length] at h1 ⊢
        rw [HFE.out, if_pos h1]
      have HV := Lib.hid hval
      clear hval
      go_wp2
      go_ret
      exact ⟨_, rfl, by rw [← HV.out]; exact HO.out, HB.out⟩

end Go.Proofs.YtcdpgdpabmlpdaaDoor
