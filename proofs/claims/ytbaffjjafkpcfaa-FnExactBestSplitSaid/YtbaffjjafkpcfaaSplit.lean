/- The contracts of BestSplit: the leaves in their order, and the first best of them. -/
import Derived.Test.YtbaffjjafkpcfaaFew2
import Derived.StillTailTactics
import Derived.Laws.EntriesVeiled
namespace Go.Proofs.Ytbaffjjafkpcfaa
open Go.RowKit

/-- the leaves below a list -/
def lv : Nat → List Int → List (List Int)
  | 0, l => [l]
  | d + 1, l => lv d (l ++ [0]) ++ lv d (l ++ [1])
def ssum (R l : List Int) (j : Int) : Nat → Int
  | 0 => 0
  | k + 1 => ssum R l j k + (if l.getD k 0 = j then R.getD k 0 else 0)
theorem ssum_yes {R l : List Int} {j : Int} {k : Nat} {r : Int} (h : l[k]? = some j) (hr : R[k]? = some r) : ssum R l j (k + 1) = ssum R l j k + r := by rw [ssum, getD_at h, if_pos rfl, getD_at hr]
theorem ssum_no {R l : List Int} {j x : Int} {k : Nat} (h : l[k]? = some x) (hx : x ≠ j) : ssum R l j (k + 1) = ssum R l j k := by rw [ssum, getD_at h, if_neg hx, Int.add_zero]
theorem ssum_bd {R : List Int} (hR : ∀ (i : Nat) (x : Int), R[i]? = some x → 0 ≤ x ∧ x ≤ 10000) (l : List Int) (j : Int) (k : Nat) : 0 ≤ ssum R l j k ∧ ssum R l j k ≤ 10000 * (k : Int) := by
  induction k with
  | zero => simp [ssum]
  | succ k ih =>
    have hi : 0 ≤ R.getD k 0 ∧ R.getD k 0 ≤ 10000 := by
      by_cases h : k < R.length
      · rw [getD_at (get_at h)]; exact hR k _ (get_at h)
      · rw [List.getD, List.getElem?_eq_none (by omega)]; simp
    rw [ssum]
    split <;> omega
def score (R l : List Int) : Int := min (ssum R l 0 l.length) (ssum R l 1 l.length)
def stp (R : List Int) (st : List Int × Int) (l : List Int) : List Int × Int := if st.2 < score R l ∧ l.contains 0 = true ∧ l.contains 1 = true then (l, score R l) else st
def stq (R : List Int) (st : List Int × Int) (l : List Int) : List Int × Int := if st.2 < score R l then (l, score R l) else st
def goS (R : List Int) (d : Nat) (l : List Int) (st : List Int × Int) : List Int × Int := (lv d l).foldl (stp R) st
theorem stp_yes {R l : List Int} {st : List Int × Int} {sc : Int} (hs : score R l = sc) (h : st.2 < sc) (h0 : l.contains 0 = true) (h1 : l.contains 1 = true) : stp R st l = (l, sc) := by subst hs; exact if_pos ⟨h, h0, h1⟩
theorem stp_lo {R l : List Int} {st : List Int × Int} {sc : Int} (hs : score R l = sc) (h : ¬ st.2 < sc) : stp R st l = st := by subst hs; exact if_neg (fun hh => h hh.1)
theorem stp_n0 {R l : List Int} {st : List Int × Int} (h : l.contains 0 = false) : stp R st l = st := if_neg (fun hh => by rw [h] at hh; exact Bool.noConfusion hh.2.1)
theorem stp_n1 {R l : List Int} {st : List Int × Int} (h : l.contains 1 = false) : stp R st l = st := if_neg (fun hh => by rw [h] at hh; exact Bool.noConfusion hh.2.2)
theorem goS_zero (R l : List Int) (st : List Int × Int) : goS R 0 l st = stp R st l := rfl
theorem score_bd {R : List Int} (hR : ∀ (i : Nat) (x : Int), R[i]? = some x → 0 ≤ x ∧ x ≤ 10000) (l : List Int) : 0 ≤ score R l ∧ score R l ≤ 10000 * (l.length : Int) := by
  have a := ssum_bd hR l 0 l.length
  have b := ssum_bd hR l 1 l.length
  unfold score
  omega
theorem lv_len : ∀ (d : Nat) (l x : List Int), x ∈ lv d l → x.length = l.length + d
  | 0, l, x, h => by simp [lv] at h; subst h; rfl
  | d + 1, l, x, h => by
    rw [lv, List.mem_append] at h
    rcases h with h | h <;> have := lv_len d _ x h <;> simp at this <;> omega
theorem fold_bd {R : List Int} (hR : ∀ (i : Nat) (x : Int), R[i]? = some x → 0 ≤ x ∧ x ≤ 10000) : ∀ (T : List (List Int)) (st : List Int × Int), (∀ l ∈ T, l.length ≤ 8) → -1 ≤ st.2 ∧ st.2 ≤ 80000 → -1 ≤ (T.foldl (stp R) st).2 ∧ (T.foldl (stp R) st).2 ≤ 80000
  | [], _, _, h => h
  | l :: T, st, hl, h => by
    rw [List.foldl_cons]
    refine fold_bd hR T _ (fun x hx => hl x (by simp [hx])) ?_
    have h1 := score_bd hR l
    have h2 := hl l (by simp)
    unfold stp
    split
    · constructor <;> dsimp only <;> omega
    · exact h
theorem goS_bd {R : List Int} (hR : ∀ (i : Nat) (x : Int), R[i]? = some x → 0 ≤ x ∧ x ≤ 10000) (d : Nat) (l : List Int) (st : List Int × Int) (hl : l.length + d ≤ 8) (h : -1 ≤ st.2 ∧ st.2 ≤ 80000) : -1 ≤ (goS R d l st).2 ∧ (goS R d l st).2 ≤ 80000 :=
  fold_bd hR _ st (fun x hx => by rw [lv_len d l x hx]; exact hl) h
theorem goS_succ (R : List Int) (d : Nat) (l : List Int) (st : List Int × Int) : goS R (d + 1) l st = goS R d (l ++ [1]) (goS R d (l ++ [0]) st) := by simp [goS, lv, List.foldl_append]
def bitRow (n x : Nat) : List Int := (List.range n).map (fun i => ((x / 2 ^ (n - 1 - i) % 2 : Nat) : Int))
/-- the reference's state behind the first x numbers -/
def spS (R : List Int) (n x : Nat) : List Int × Int := ((List.range' 1 x).map (bitRow n)).foldl (stq R) ([], -1)
theorem spS_zero (R : List Int) (n : Nat) : spS R n 0 = ([], -1) := rfl
theorem spS_succ (R : List Int) (n x : Nat) : spS R n (x + 1) = stq R (spS R n x) (bitRow n (x + 1)) := by
  rw [spS, List.range'_concat, List.map_append, List.foldl_append]
  simp only [List.map_cons, List.map_nil, List.foldl_cons, List.foldl_nil, Nat.one_mul]
  rw [Nat.add_comm 1 x]; rfl
def chkS (n : Nat) : Bool := decide (lv n [] = bitRow n 0 :: ((List.range' 1 (2 ^ n - 2)).map (bitRow n) ++ [bitRow n (2 ^ n - 1)])) && (!(bitRow n 0).contains 1 && (!(bitRow n (2 ^ n - 1)).contains 0 && ((List.range' 1 (2 ^ n - 2)).map (bitRow n)).all (fun l => l.contains 0 && l.contains 1)))
theorem chkS_all : chkS 2 = true ∧ chkS 3 = true ∧ chkS 4 = true ∧ chkS 5 = true ∧ chkS 6 = true ∧ chkS 7 = true ∧ chkS 8 = true :=
  ⟨by kernel_rfl, by kernel_rfl, by kernel_rfl, by kernel_rfl, by kernel_rfl, by kernel_rfl, by kernel_rfl⟩
theorem fold_both (R : List Int) : ∀ (T : List (List Int)) (st : List Int × Int), (∀ l ∈ T, l.contains 0 = true ∧ l.contains 1 = true) → T.foldl (stp R) st = T.foldl (stq R) st
  | [], _, _ => rfl
  | l :: T, st, h => by
    have h0 := h l (by simp)
    have e : stp R st l = stq R st l := by
      unfold stp stq
      by_cases hc : st.2 < score R l
      · rw [if_pos ⟨hc, h0.1, h0.2⟩, if_pos hc]
      · rw [if_neg (fun hh => hc hh.1), if_neg hc]
    rw [List.foldl_cons, List.foldl_cons, e]
    exact fold_both R T _ (fun l hl => h l (by simp [hl]))
theorem split_of {n : Nat} (h : chkS n = true) (R : List Int) : goS R n [] ([], -1) = spS R n (2 ^ n - 2) := by
  simp only [chkS, Bool.and_eq_true, decide_eq_true_eq, Bool.not_eq_true', List.all_eq_true] at h
  obtain ⟨h1, h2, h3, h4⟩ := h
  have s0 : ∀ st, stp R st (bitRow n 0) = st := fun st => by
    unfold stp; rw [if_neg (fun hh => by rw [h2] at hh; exact Bool.noConfusion hh.2.2)]
  have s1 : ∀ st, stp R st (bitRow n (2 ^ n - 1)) = st := fun st => by
    unfold stp; rw [if_neg (fun hh => by rw [h3] at hh; exact Bool.noConfusion hh.2.1)]
  rw [goS, h1, List.foldl_cons, List.foldl_append, s0, List.foldl_cons, List.foldl_nil, s1]
  exact fold_both R _ _ h4
theorem split_eq {n : Nat} (h1 : 2 ≤ n) (h8 : n ≤ 8) (R : List Int) : goS R n [] ([], -1) = spS R n (2 ^ n - 2) := by
  obtain ⟨a2, a3, a4, a5, a6, a7, a8⟩ := chkS_all
  rcases (show n = 2 ∨ n = 3 ∨ n = 4 ∨ n = 5 ∨ n = 6 ∨ n = 7 ∨ n = 8 by omega) with rfl | rfl | rfl | rfl | rfl | rfl | rfl
  · exact split_of a2 R
  · exact split_of a3 R
  · exact split_of a4 R
  · exact split_of a5 R
  · exact split_of a6 R
  · exact split_of a7 R
  · exact split_of a8 R
theorem bitRow_len (n x : Nat) : (bitRow n x).length = n := by simp [bitRow]
def bsCode (L : List (Int × Int × Int × Int)) (f : Int) : Int := if millsOk L then (if inB f 0 12 then (if L.length = 1 then 6 else 0) else 2) else 1
def bsSt (L : List (Int × Int × Int × Int)) (f : Int) : List Int × Int := if bsCode L f = 0 then goS (mrTo L f L.length) L.length [] ([], -1) else ([], 0)
theorem stq_len {R : List Int} {st : List Int × Int} {l : List Int} {m : Nat} (h : st.1.length ≤ m) (hl : l.length ≤ m) : (stq R st l).1.length ≤ m := by unfold stq; split <;> assumption
theorem spS_len (R : List Int) (n x : Nat) : (spS R n x).1.length ≤ n := by
  induction x with
  | zero => simp [spS_zero]
  | succ x ih => rw [spS_succ]; exact stq_len ih (by rw [bitRow_len]; exact Nat.le_refl _)
theorem bsOk {L : List (Int × Int × Int × Int)} {f : Int} (h : bsCode L f = 0) : millsOk L = true ∧ inB f 0 12 = true ∧ 2 ≤ L.length ∧ L.length ≤ 8 := by
  have hm : millsOk L = true := by
    cases h1 : millsOk L
    · simp [bsCode, h1] at h
    · rfl
  have hi : inB f 0 12 = true := by
    cases h1 : inB f 0 12
    · simp [bsCode, hm, h1] at h
    · rfl
  have hl := millsOk_len hm
  refine ⟨hm, hi, ?_, hl.2⟩
  rcases Nat.lt_or_ge 1 L.length with h1 | h1
  · exact h1
  · have e : L.length = 1 := by omega
    simp [bsCode, hm, hi, e] at h
theorem bsSt_len (L : List (Int × Int × Int × Int)) (f : Int) : (bsSt L f).1.length ≤ 1000000 := by
  unfold bsSt
  split
  · rename_i h
    obtain ⟨_, _, h2, h8⟩ := bsOk h
    rw [split_eq h2 h8]
    have := spS_len (mrTo L f L.length) L.length (2 ^ L.length - 2)
    omega
  · simp
/-! ### Frames -/
theorem keptR_below {w w' : World} (h : Below w.heap.size w w') (a b : Nat) : KeptR a b w w' := ⟨h.os, h.tape, h.output, h.size, fun i hi _ => h.block i hi⟩
theorem KeptR.set_ {w w' : World} {a b g : Nat} (h : KeptR a b w w') (h1 : a ≤ g) (h2 : g < b) (i : Nat) (u : Value) : KeptR a b w (w'.setCell ⟨g, i, none⟩ u) :=
  h.trans (KeptR.grown (grown_set (grown_refl w' (some g)) i u) (fun q hq => by injection hq with hq; subst hq; exact ⟨h1, h2⟩))
theorem kr_cell {w w' : World} {a b : Nat} (h : KeptR a b w w') {p : Addr} {v : Value} (hc : w.cell? p = some v) (hp : p.block < a ∨ b ≤ p.block) : w'.cell? p = some v :=
  (World.cell?_of_block (h.block p.block (World.block_lt_of_cell? w p hc) hp)).trans hc
theorem kr_blk {w w' : World} {a b g : Nat} {t : TypeId} {cs : List Value} (h : KeptR a b w w') (hB : Blk w g t cs) (hp : g < a ∨ b ≤ g) : Blk w' g t cs := (h.block g hB.lt hp).trans hB
def hasB (L : List Int) (x : Int) : Bool := L.contains x

theorem contains_yes {L : List Int} {k : Nat} {x : Int} (h : L[k]? = some x) : hasB L x = true := by simpa [hasB] using List.mem_of_getElem? h
theorem contains_no {L : List Int} {x : Int} (h : ∀ j, j < L.length → L.getD j 0 ≠ x) : hasB L x = false := by
  unfold hasB
  cases hc : L.contains x
  · rfl
  · exfalso
    obtain ⟨j, hj, e⟩ := List.getElem_of_mem (show x ∈ L by simpa using hc)
    exact h j hj (by rw [getD_at (get_at hj)]; exact e)
set_option maxHeartbeats 1000000 in
theorem has_c (A : Option Addr) (c : Nat) (L : List Int) (x : Int) (w : World) (hR : Rd e1 1 w w.heap.size A L) (hn : L.length ≤ 1000000) :
    Calls Try.prog 66 #[.slice A L.length c, .int .i64 x] w fun e w' => e = .returned (.bool (hasB L x)) ∧ w = w' := by
  go_enter Try.func66, Try.ntmps66
  go_wp2
  go_loop [9] (fun i => ∃ k : Nat, k ≤ L.length ∧ i = .int .i64 k ∧ Hid (∀ j, j < k → L.getD j 0 ≠ x)) (fun i => L.length - (intOf i).toNat)
  case atStart => exact ⟨0, by omega, rfl, fun j hj => absurd hj (by omega)⟩
  case round =>
    obtain ⟨k, hk, rfl, HN⟩ := hrel
    by_cases hlt : k < L.length
    · obtain ⟨b, off, rfl, hbb, hc⟩ := hR.at1 hlt
      have k0 := hc k _ (get_at hlt)
      have HX := Lib.hid (get_at hlt)
      clear hc hR
      generalize L[k] = y at *
      by_cases e : y = x
      · subst e
        have HC := Lib.hid (contains_yes HX.out)
        clear HN
        go_wp2
        go_ret
        exact ⟨ret_bool HC.out.symm, rfl⟩
      · have hb : (y == x) = false := beq_eq_false_iff_ne.2 e
        have HN2 : Hid (∀ j, j < k + 1 → L.getD j 0 ≠ x) := fun j hj => by
          rcases Nat.lt_succ_iff_lt_or_eq.1 hj with hj | rfl
          · exact HN.out j hj
          · rw [getD_at HX.out]; exact e
        clear HN e
        go_wp2
        go_round
        case rel => exact ⟨k + 1, by omega, by go_num, HN2⟩
        case measure => simp [intOf]; omega
    · obtain rfl : k = L.length := by omega
      have HC := Lib.hid (contains_no HN.out)
      clear HN
      go_wp2
      go_ret
      exact ⟨ret_bool HC.out.symm, rfl⟩

/-- the world in which the leaf's call runs -/
structure BsW (gm gn gr gb b0 n : Nat) (AM AR : Option Addr) (cM cR : Nat) (R : List Int) (w : World) : Prop where
  mills : w.cell? ⟨gm, 0, none⟩ = some (.slice AM n cM)
  next : w.cell? ⟨gn, 0, none⟩ = some (.func (.func 64) #[] #[.pointer (some ⟨gm, 0, none⟩), .pointer (some ⟨gn, 0, none⟩), .pointer (some ⟨gr, 0, none⟩), .pointer (some ⟨gb + 1, 0, none⟩), .pointer (some ⟨gb, 0, none⟩)])
  rates : w.cell? ⟨gr, 0, none⟩ = some (.slice AR R.length cR)
  own : Own e1 1 w b0 2 (.slice AR R.length cR) R
  far : ∀ g, (Value.slice AR R.length cR).ownBlock = some g → g < gb ∨ gb + 2 ≤ g
  size : gb + 2 ≤ w.heap.size
structure BsS (gb b0 : Nat) (w : World) (st : List Int × Int) (bV : Value) : Prop where
  best : Blk w gb 22 [bV]
  most : Blk w (gb + 1) 2 [.int .i64 st.2]
  own : Own e1 1 w b0 2 bV st.1
  far : ∀ g, bV.ownBlock = some g → g < gb ∨ gb + 2 ≤ g
theorem BsW.kept {gm gn gr gb b0 n : Nat} {AM AR : Option Addr} {cM cR : Nat} {R : List Int} {w w' : World} (h : BsW gm gn gr gb b0 n AM AR cM cR R w) (hk : KeptR gb (gb + 2) w w') (h1 : gm < gb ∨ gb + 2 ≤ gm) (h2 : gn < gb ∨ gb + 2 ≤ gn) (h3 : gr < gb ∨ gb + 2 ≤ gr) : BsW gm gn gr gb b0 n AM AR cM cR R w' :=
  ⟨kr_cell hk h.mills h1, kr_cell hk h.next h2, kr_cell hk h.rates h3, Own.keptR h.own hk h.far, h.far, Nat.le_trans h.size hk.size⟩
theorem BsS.below {gb b0 : Nat} {w w' : World} {st : List Int × Int} {bV : Value} (h : BsS gb b0 w st bV) (hb : Below w.heap.size w w') : BsS gb b0 w' st bV := ⟨h.best.call hb, h.most.call hb, h.own.call hb, h.far⟩
set_option maxHeartbeats 8000000 in
set_option maxRecDepth 100000 in
theorem bs_leaf (gm gn gr gb b0 n : Nat) (AM AR : Option Addr) (cM cR : Nat) (R : List Int) (A : Option Addr) (c : Nat) (l : List Int) (st : List Int × Int) (bV : Value) (w : World) (hW : BsW gm gn gr gb b0 n AM AR cM cR R w) (hS : BsS gb b0 w st bV)
    (hO : Own e1 1 w b0 2 (.slice A l.length c) l) (hfar : ∀ g, (Value.slice A l.length c).ownBlock = some g → g < gb ∨ gb + 2 ≤ g) (hl : l.length = n) (hRn : R.length = n) (hn8 : n ≤ 8) (h01 : ∀ (k : Nat) (x : Int), l[k]? = some x → x = 0 ∨ x = 1) (hr : ∀ (i : Nat) (x : Int), R[i]? = some x → 0 ≤ x ∧ x ≤ 10000) :
    Calls Try.prog 64 #[.slice A l.length c, .pointer (some ⟨gm, 0, none⟩), .pointer (some ⟨gn, 0, none⟩), .pointer (some ⟨gr, 0, none⟩), .pointer (some ⟨gb + 1, 0, none⟩), .pointer (some ⟨gb, 0, none⟩)] w fun e w' => e = .returned (.tuple #[]) ∧ (∃ bV', BsS gb b0 w' (stp R st l) bV') ∧ KeptR gb (gb + 2) w w' := by
  have q1 := hW.mills
  have q3 := hW.rates
  have hgs := hW.size
  have HRD := Lib.hid (Own.rd_ len_x1 hW.own rfl)
  have HLD := Lib.hid (Own.rd_ len_x1 hO rfl)
  have HS := Lib.hid hS
  have HO := Lib.hid hO
  have HF := Lib.hid hfar
  have H01 := Lib.hid h01
  have HRB := Lib.hid hr
  have HRN := Lib.hid hRn
  have HLN := Lib.hid hl
  have hll : l.length ≤ 8 := by omega
  clear hW hS hO hfar h01 hr
  have hln : ¬ (l.length : Int) < (n : Int) := by omega
  clear hl hRn
  go_enter Try.func64, Try.ntmps64
  go_wp2
  go_loopw [31] (fun i wr => ∃ k : Nat, k ≤ l.length ∧ i = .int .i64 (k : Int) ∧ Below w.heap.size w wr ∧ Blk wr w.heap.size 94 [.int .i64 (ssum R l 0 k), .int .i64 (ssum R l 1 k)]) (fun i _ => l.length - (intOf i).toNat)
  case atStart => exact ⟨0, by omega, rfl, below_alloc1 w _, Blk.new w 94 #[.int .i64 0, .int .i64 0]⟩
  case round =>
    obtain ⟨k, hk, rfl, hb, hB⟩ := hrel
    have hsz := hb.size
    have HB := Lib.hid hb
    have HBK := Lib.hid hB
    obtain ⟨a0, a1⟩ := ssum_bd HRB.out l 0 k
    obtain ⟨c0, c1⟩ := ssum_bd HRB.out l 1 k
    by_cases hlt : k < l.length
    · have hkR : k < R.length := by rw [HRN.out, ← HLN.out]; exact hlt
      obtain ⟨b, off, rfl, hbb, hc⟩ := HLD.out.at1 hlt
      have k0 := kc hb (hc k _ (get_at hlt))
      obtain ⟨b', off', rfl, hbb', hc'⟩ := HRD.out.at1 hkR
      have r0 := kc hb (hc' k _ (get_at hkR))
      have q3' := kc hb q3
      have HX := Lib.hid (get_at hlt)
      have HR := Lib.hid (get_at hkR)
      obtain ⟨x1, x2⟩ := HRB.out _ _ HR.out
      have hx := H01.out _ _ HX.out
      have p0 : wr.cell? ⟨w.heap.size, 0, none⟩ = some (.int .i64 (ssum R l 0 k)) := hB.cell 0
      have p1 : wr.cell? ⟨w.heap.size, 1, none⟩ = some (.int .i64 (ssum R l 1 k)) := hB.cell 1
      have pf := hB.frozen
      have j1 : (0 : Int) ≤ (k : Int) := by omega
      have j2 : (k : Int) < (R.length : Int) := by omega
      have j3 : (k : Int) < (l.length : Int) := by omega
      clear hc hc' hb hB
      generalize R[k] = r at *
      generalize l[k] = e at *
      rcases hx with rfl | rfl
      · have HY := Lib.hid (ssum_yes (R := R) HX.out HR.out)
        have HNO := Lib.hid (ssum_no (R := R) (j := 1) HX.out (by omega))
        have HB2 : Blk (wr.setCell ⟨w.heap.size, 0, none⟩ (.int .i64 (ssum R l 0 k + r))) w.heap.size 94 [.int .i64 (ssum R l 0 (k + 1)), .int .i64 (ssum R l 1 (k + 1))] := by
          rw [HY.out, HNO.out]; exact HBK.out.set_ 0 _
        have HBB := Lib.hid (show Below w.heap.size w (wr.setCell ⟨w.heap.size, 0, none⟩ (.int .i64 (ssum R l 0 k + r))) from HB.out.setCell (Nat.le_refl _) _)
        clear HX HY HNO
        have HBN := Lib.hid HB2
        clear HB2
        generalize ssum R l 0 k = s0 at *
        generalize ssum R l 1 k = s1 at *
        go_wp2
        go_still_tail 9, (by kernel_rfl)
        repeat still_step
        go_wp2
        go_roundw
        case rel => exact ⟨k + 1, by omega, by go_num, HBB.out.drew, Blk.drew HBN.out⟩
        case measure => simp [intOf]; omega
      · have HY := Lib.hid (ssum_yes (R := R) HX.out HR.out)
        have HNO := Lib.hid (ssum_no (R := R) (j := 0) HX.out (by omega))
        have HB2 : Blk (wr.setCell ⟨w.heap.size, 1, none⟩ (.int .i64 (ssum R l 1 k + r))) w.heap.size 94 [.int .i64 (ssum R l 0 (k + 1)), .int .i64 (ssum R l 1 (k + 1))] := by
          rw [HY.out, HNO.out]; exact HBK.out.set_ 1 _
        have HBB := Lib.hid (show Below w.heap.size w (wr.setCell ⟨w.heap.size, 1, none⟩ (.int .i64 (ssum R l 1 k + r))) from HB.out.setCell (Nat.le_refl _) _)
        clear HX HY HNO
        have HBN := Lib.hid HB2
        clear HB2
        generalize ssum R l 0 k = s0 at *
        generalize ssum R l 1 k = s1 at *
        go_wp2
        go_still_tail 9, (by kernel_rfl)
        repeat still_step
        go_wp2
        go_roundw
        case rel => exact ⟨k + 1, by omega, by go_num, HBB.out.drew, Blk.drew HBN.out⟩
        case measure => simp [intOf]; omega
    · obtain rfl : k = l.length := by omega
      obtain ⟨z1, z2, z3, z4⟩ := HS.out.below hb
      have p0 : wr.cell? ⟨w.heap.size, 0, none⟩ = some (.int .i64 (ssum R l 0 l.length)) := hB.cell 0
      have p1 : wr.cell? ⟨w.heap.size, 1, none⟩ = some (.int .i64 (ssum R l 1 l.length)) := hB.cell 1
      have m0 : wr.cell? ⟨gb + 1, 0, none⟩ = some (.int .i64 st.2) := z2.cell 0
      have m1 : wr.cell? ⟨gb, 0, none⟩ = some bV := z1.cell 0
      have ⟨f1, f2, f3, f4⟩ := (⟨z1.frozen, z2.frozen, z1.lt, z2.lt⟩ : _ ∧ _ ∧ _ ∧ _)
      have HSC := Lib.hid (show score R l = min (ssum R l 0 l.length) (ssum R l 1 l.length) from rfl)
      generalize ssum R l 0 l.length = s0 at *
      generalize ssum R l 1 l.length = s1 at *
      obtain ⟨sc, hsc⟩ : ∃ sc, min s0 s1 = sc := ⟨_, rfl⟩
      rw [hsc] at HSC
      have HZ := Lib.hid (HS.out.below hb)
      have HK := Lib.hid (keptR_below hb gb (gb + 2))
      have HLDb := Lib.hid ((HLD.out.below hb).more hsz)
      have HOb := Lib.hid (HO.out.call hb)
      clear hB
      rcases Int.lt_or_le s1 s0 with hm | hm
      · obtain rfl : s1 = sc := by omega
        by_cases hgt : st.2 < s1
        · go_wp2_with fail
          refine (has_c A c l 0 wr (HLDb.out) (by omega)).mono ?_
          rintro e w3 ⟨rfl, rfl⟩
          cases hc0 : hasB l 0
          · have HE := Lib.hid (stp_n0 (R := R) (st := st) hc0)
            go_wp2
            refine bodyPost_end (results_none rfl _ _ _) rfl ?_
            exact ⟨rfl, ⟨bV, by rw [HE.out]; exact HZ.out⟩, HK.out⟩
          · go_wp2_with fail
            refine (has_c A c l 1 wr (HLDb.out) (by omega)).mono ?_
            rintro e w3 ⟨rfl, rfl⟩
            cases hc1 : hasB l 1
            · have HE := Lib.hid (stp_n1 (R := R) (st := st) hc1)
              go_wp2
              refine bodyPost_end (results_none rfl _ _ _) rfl ?_
              exact ⟨rfl, ⟨bV, by rw [HE.out]; exact HZ.out⟩, HK.out⟩
            · have HE := Lib.hid (stp_yes HSC.out hgt hc0 hc1)
              go_wp2
              refine bodyPost_end (results_none rfl _ _ _) rfl ?_
              refine ⟨rfl, ⟨.slice A l.length c, ?_⟩, (HK.out.set_ (Nat.le_refl _) (by omega) 0 _).set_ (by omega) (by omega) 0 _⟩
              rw [HE.out]
              exact ⟨(z1.set_ 0 _).far (Nat.ne_of_lt (Nat.lt_succ_self gb)) _, (z2.far (Nat.ne_of_gt (Nat.lt_succ_self gb)) _).set_ 0 _, Own.keptR HOb.out (((KeptR.refl gb (gb + 2) _).set_ (Nat.le_refl _) (by omega) 0 _).set_ (by omega) (by omega) 0 _) HF.out, HF.out⟩
        · have HE := Lib.hid (stp_lo (st := st) HSC.out hgt)
          go_wp2
          refine bodyPost_end (results_none rfl _ _ _) rfl ?_
          exact ⟨rfl, ⟨bV, by rw [HE.out]; exact HZ.out⟩, HK.out⟩
      · obtain rfl : s0 = sc := by omega
        by_cases hgt : st.2 < s0
        · go_wp2_with fail
          refine (has_c A c l 0 wr (HLDb.out) (by omega)).mono ?_
          rintro e w3 ⟨rfl, rfl⟩
          cases hc0 : hasB l 0
          · have HE := Lib.hid (stp_n0 (R := R) (st := st) hc0)
            go_wp2
            refine bodyPost_end (results_none rfl _ _ _) rfl ?_
            exact ⟨rfl, ⟨bV, by rw [HE.out]; exact HZ.out⟩, HK.out⟩
          · go_wp2_with fail
            refine (has_c A c l 1 wr (HLDb.out) (by omega)).mono ?_
            rintro e w3 ⟨rfl, rfl⟩
            cases hc1 : hasB l 1
            · have HE := Lib.hid (stp_n1 (R := R) (st := st) hc1)
              go_wp2
              refine bodyPost_end (results_none rfl _ _ _) rfl ?_
              exact ⟨rfl, ⟨bV, by rw [HE.out]; exact HZ.out⟩, HK.out⟩
            · have HE := Lib.hid (stp_yes HSC.out hgt hc0 hc1)
              go_wp2
              refine bodyPost_end (results_none rfl _ _ _) rfl ?_
              refine ⟨rfl, ⟨.slice A l.length c, ?_⟩, (HK.out.set_ (Nat.le_refl _) (by omega) 0 _).set_ (by omega) (by omega) 0 _⟩
              rw [HE.out]
              exact ⟨(z1.set_ 0 _).far (Nat.ne_of_lt (Nat.lt_succ_self gb)) _, (z2.far (Nat.ne_of_gt (Nat.lt_succ_self gb)) _).set_ 0 _, Own.keptR HOb.out (((KeptR.refl gb (gb + 2) _).set_ (Nat.le_refl _) (by omega) 0 _).set_ (by omega) (by omega) 0 _) HF.out, HF.out⟩
        · have HE := Lib.hid (stp_lo (st := st) HSC.out hgt)
          go_wp2
          refine bodyPost_end (results_none rfl _ _ _) rfl ?_
          exact ⟨rfl, ⟨bV, by rw [HE.out]; exact HZ.out⟩, HK.out⟩

set_option maxHeartbeats 8000000 in
set_option maxRecDepth 100000 in
theorem bs_c (gm gn gr gb b0 n : Nat) (AM AR : Option Addr) (cM cR : Nat) (R : List Int) (h1 : gm < gb ∨ gb + 2 ≤ gm) (h2 : gn < gb ∨ gb + 2 ≤ gn) (h3 : gr < gb ∨ gb + 2 ≤ gr) (w0 : Nat) (hb0 : b0 ≤ w0) : ∀ (d : Nat) (A : Option Addr) (c : Nat) (l : List Int) (st : List Int × Int) (bV : Value) (w : World), BsW gm gn gr gb b0 n AM AR cM cR R w → BsS gb b0 w st bV →
    Own e1 1 w b0 2 (.slice A l.length c) l → (∀ g, (Value.slice A l.length c).ownBlock = some g → g < gb ∨ gb + 2 ≤ g) → l.length + d = n → R.length = n → n ≤ 8 → (∀ (k : Nat) (x : Int), l[k]? = some x → x = 0 ∨ x = 1) → (∀ (i : Nat) (x : Int), R[i]? = some x → 0 ≤ x ∧ x ≤ 10000) → -1 ≤ st.2 ∧ st.2 ≤ 80000 → w0 ≤ w.heap.size →
    Calls Try.prog 64 #[.slice A l.length c, .pointer (some ⟨gm, 0, none⟩), .pointer (some ⟨gn, 0, none⟩), .pointer (some ⟨gr, 0, none⟩), .pointer (some ⟨gb + 1, 0, none⟩), .pointer (some ⟨gb, 0, none⟩)] w fun e w' => e = .returned (.tuple #[]) ∧ (∃ bV', BsS gb b0 w' (goS R d l st) bV') ∧ KeptR gb (gb + 2) w w' := by
  intro d
  induction d with
  | zero =>
    intro A c l st bV w hW hS hO hfar hl hRn hn8 h01 hr hst hw0
    exact bs_leaf gm gn gr gb b0 n AM AR cM cR R A c l st bV w hW hS hO hfar hl hRn hn8 h01 hr
  | succ d ih =>
    intro A c l st bV w hW hS hO hfar hl hRn hn8 h01 hr hst hw0
    have q1 := hW.mills
    have hgs := hW.size
    have HIH := Lib.hid ih
    have HWa := Lib.hid hW
    have HSa := Lib.hid hS
    have HOa := Lib.hid hO
    have HF := Lib.hid hfar
    have H01 := Lib.hid h01
    have HRB := Lib.hid hr
    have HRN := Lib.hid hRn
    have HCA := Lib.hid (own_nonec hO)
    have HGa := Lib.hid hgs
    have HZa := Lib.hid hw0
    have HSBa := Lib.hid hst
    have hbl : l.length + 1 ≤ 1000000000 := by omega
    clear ih hW hS hO hfar h01 hr hRn hst
    have hln : (l.length : Int) < (n : Int) := by omega
    go_enter Try.func64, Try.ntmps64
    go_wp2
    obtain ⟨la, hla⟩ : ∃ q, l ++ [0] = q := ⟨_, rfl⟩
    have hlla : la.length + d = n := by rw [← hla]; simp; omega
    have HLEa := Lib.hid hla
    have H01a : Hid (∀ (k : Nat) (y : Int), la[k]? = some y → y = 0 ∨ y = 1) := fun k y hy => by
      rw [← HLEa.out] at hy
      rcases Nat.lt_or_ge k l.length with h1 | h1
      · rw [List.getElem?_append_left h1] at hy; exact H01.out k y hy
      · rw [List.getElem?_append_right h1] at hy
        have h2 : k - l.length = 0 := by
          have := (List.getElem?_eq_some_iff.1 hy).1
          simp at this; omega
        rw [h2] at hy; simp at hy; omega
    have HRECa := Lib.hid (show ∀ (A2 : Option Addr) (c2 : Nat) (W : World), Below w.heap.size w W → Own e1 1 W w.heap.size 2 (.slice A2 la.length c2) la → Calls Try.prog 64 #[.slice A2 la.length c2, .pointer (some ⟨gm, 0, none⟩), .pointer (some ⟨gn, 0, none⟩), .pointer (some ⟨gr, 0, none⟩), .pointer (some ⟨gb + 1, 0, none⟩), .pointer (some ⟨gb, 0, none⟩)] W fun e w' => e = .returned (.tuple #[]) ∧ (∃ bV', BsS gb b0 w' (goS R d la st) bV') ∧ KeptR gb (gb + 2) W w' from fun A2 c2 W q1 q2 =>
      HIH.out A2 c2 la st bV W (HWa.out.kept (keptR_below q1 gb (gb + 2)) h1 h2 h3) (HSa.out.below q1) (q2.base_ (Nat.le_trans hb0 HZa.out)) (fun g hg => .inr (Nat.le_trans HGa.out (q2.lt g hg).1)) hlla HRN.out hn8 H01a.out HRB.out HSBa.out (Nat.le_trans HZa.out q1.size))
    have q2a : w.cell? ⟨gn, 0, none⟩ = some (.func (.func 64) #[] #[.pointer (some ⟨gm, 0, none⟩), .pointer (some ⟨gn, 0, none⟩), .pointer (some ⟨gr, 0, none⟩), .pointer (some ⟨gb + 1, 0, none⟩), .pointer (some ⟨gb, 0, none⟩)]) := HWa.out.next
    clear hla hlla
    go_region_held3 (fun w' => w'.cell? ⟨gn, 0, none⟩ = some (.func (.func 64) #[] #[.pointer (some ⟨gm, 0, none⟩), .pointer (some ⟨gn, 0, none⟩), .pointer (some ⟨gr, 0, none⟩), .pointer (some ⟨gb + 1, 0, none⟩), .pointer (some ⟨gb, 0, none⟩)])) (first | exact q2a | exact kc (below_alloc1 w (.cells #[.int .i64 0] 2)) q2a | exact kc hb1a q2a | exact kc hb1a (kc (below_alloc1 w (.cells #[.int .i64 0] 2)) q2a) | exact kc (below_alloc1 w1a (.cells #[.int .i64 0] 2)) (kc hb1a q2a) | exact kc hb2a q2a | exact kr_cell hk4a (kc hb2a q2a) h2) (first
      | (go_at_call 65; first
          | (refine (cloneI_c A c l _ _ (Own.rd_ len_x1 (HOa.out.call (below_drew_ w)) rfl) HCA.out (by omega)).mono ?_; rintro e w1a ⟨v1a, rfl, ho1a, hb1a⟩)
          | (refine (cloneI_c A c l _ _ (Own.rd_ len_x1 ((HOa.out.call (below_alloc1 w (.cells #[.int .i64 0] 2))).call (below_drew_ _)) rfl) HCA.out (by omega)).mono ?_; rintro e w1a ⟨v1a, rfl, ho1a, hb1a⟩))
      | (refine stepGInt64 _ _ rfl rfl v1a l 0 _ rfl (ho1a.call (below_alloc1 w1a (.cells #[.int .i64 0] 2))) (Nat.le_trans hb1a.size (below_alloc1 w1a (.cells #[.int .i64 0] 2)).size) rfl ((Blk.new w1a 2 #[.int .i64 0]).cell 0) hbl ?_; intro v2a w2a hown2 hg2; have hb2a : Below w.heap.size w w2a := bel_own (bel_call (bel_call (below_drew_ w) hb1a (below_drew_ w).size) (below_alloc1 w1a (.cells #[.int .i64 0] 2)) (Nat.le_trans (below_drew_ w).size hb1a.size)) hg2 (Nat.le_trans (Nat.le_trans (below_drew_ w).size hb1a.size) (below_alloc1 w1a (.cells #[.int .i64 0] 2)).size) (by cases hq : v1a.ownBlock with | none => exact .inl rfl | some q => exact .inr ⟨q, rfl, (ho1a.lt q hq).1⟩); rw [HLEa.out] at hown2; obtain ⟨A2, c2, e2'⟩ := own_form hown2; subst e2')
      | (refine stepGInt64 _ _ rfl rfl v1a l 0 _ rfl ho1a hb1a.size rfl (kc hb1a ((Blk.new w 2 #[.int .i64 0]).cell 0)) hbl ?_; intro v2a w2a hown2 hg2; have hb2a : Below w.heap.size w w2a := bel_own (bel_call (bel_call (below_alloc1 w (.cells #[.int .i64 0] 2)) (below_drew_ _) (below_alloc1 w (.cells #[.int .i64 0] 2)).size) hb1a (Nat.le_trans (below_alloc1 w (.cells #[.int .i64 0] 2)).size (below_drew_ _).size)) hg2 (Nat.le_trans (Nat.le_trans (below_alloc1 w (.cells #[.int .i64 0] 2)).size (below_drew_ _).size) hb1a.size) (by cases hq : v1a.ownBlock with | none => exact .inl rfl | some q => exact .inr ⟨q, rfl, Nat.le_trans (below_alloc1 w (.cells #[.int .i64 0] 2)).size (ho1a.lt q hq).1⟩); rw [HLEa.out] at hown2; obtain ⟨A2, c2, e2'⟩ := own_form hown2; subst e2')
      | (go_at_call 64; refine (HRECa.out A2 c2 w2a hb2a (hown2.base_ (by first | exact hb1a.size | exact Nat.le_trans (below_alloc1 w (.cells #[.int .i64 0] 2)).size (Nat.le_refl _) | simp))).mono ?_; rintro e w4a ⟨rfl, hs4a, hk4a⟩))
    all_goals
      have HKa := Lib.hid ((keptR_below hb2a gb (gb + 2)).trans hk4a)
      obtain ⟨bVa, hs4a⟩ := hs4a
      have HS4a := Lib.hid hs4a
      clear hb1a hb2a hk4a hs4a hown2 hg2 ho1a q2a
      obtain ⟨sta, hsta⟩ : ∃ q, goS R d la st = q := ⟨_, rfl⟩
      have hlb := goS_bd HRB.out d la st (by rw [← HLEa.out]; simp; omega) HSBa.out
      rw [hsta] at HS4a hlb
      have HSTA := Lib.hid hsta
      have HSBb := Lib.hid hlb
      have HWb := Lib.hid (HWa.out.kept HKa.out h1 h2 h3)
      have HSb := Lib.hid HS4a.out
      have HOb := Lib.hid (Own.keptR HOa.out HKa.out HF.out)
      have HGb := Lib.hid (Nat.le_trans HGa.out HKa.out.size)
      have HZb := Lib.hid (Nat.le_trans HZa.out HKa.out.size)
      clear hsta hlb q1
      go_wp2
      obtain ⟨lb, hlb⟩ : ∃ q, l ++ [1] = q := ⟨_, rfl⟩
      have hllb : lb.length + d = n := by rw [← hlb]; simp; omega
      have HLEb := Lib.hid hlb
      have H01b : Hid (∀ (k : Nat) (y : Int), lb[k]? = some y → y = 0 ∨ y = 1) := fun k y hy => by
        rw [← HLEb.out] at hy
        rcases Nat.lt_or_ge k l.length with h1 | h1
        · rw [List.getElem?_append_left h1] at hy; exact H01.out k y hy
        · rw [List.getElem?_append_right h1] at hy
          have h2 : k - l.length = 0 := by
            have := (List.getElem?_eq_some_iff.1 hy).1
            simp at this; omega
          rw [h2] at hy; simp at hy; omega
      have HRECb := Lib.hid (show ∀ (A2 : Option Addr) (c2 : Nat) (W : World), Below w4a.heap.size w4a W → Own e1 1 W w4a.heap.size 2 (.slice A2 lb.length c2) lb → Calls Try.prog 64 #[.slice A2 lb.length c2, .pointer (some ⟨gm, 0, none⟩), .pointer (some ⟨gn, 0, none⟩), .pointer (some ⟨gr, 0, none⟩), .pointer (some ⟨gb + 1, 0, none⟩), .pointer (some ⟨gb, 0, none⟩)] W fun e w' => e = .returned (.tuple #[]) ∧ (∃ bV', BsS gb b0 w' (goS R d lb sta) bV') ∧ KeptR gb (gb + 2) W w' from fun A2 c2 W q1 q2 =>
        HIH.out A2 c2 lb sta bVa W (HWb.out.kept (keptR_below q1 gb (gb + 2)) h1 h2 h3) (HSb.out.below q1) (q2.base_ (Nat.le_trans hb0 HZb.out)) (fun g hg => .inr (Nat.le_trans HGb.out (q2.lt g hg).1)) hllb HRN.out hn8 H01b.out HRB.out HSBb.out (Nat.le_trans HZb.out q1.size))
      have q2b : w4a.cell? ⟨gn, 0, none⟩ = some (.func (.func 64) #[] #[.pointer (some ⟨gm, 0, none⟩), .pointer (some ⟨gn, 0, none⟩), .pointer (some ⟨gr, 0, none⟩), .pointer (some ⟨gb + 1, 0, none⟩), .pointer (some ⟨gb, 0, none⟩)]) := HWb.out.next
      clear hlb hllb
      go_region_held3 (fun w' => w'.cell? ⟨gn, 0, none⟩ = some (.func (.func 64) #[] #[.pointer (some ⟨gm, 0, none⟩), .pointer (some ⟨gn, 0, none⟩), .pointer (some ⟨gr, 0, none⟩), .pointer (some ⟨gb + 1, 0, none⟩), .pointer (some ⟨gb, 0, none⟩)])) (first | exact q2b | exact kc (below_alloc1 w4a (.cells #[.int .i64 1] 2)) q2b | exact kc hb1b q2b | exact kc hb1b (kc (below_alloc1 w4a (.cells #[.int .i64 1] 2)) q2b) | exact kc (below_alloc1 w1b (.cells #[.int .i64 1] 2)) (kc hb1b q2b) | exact kc hb2b q2b | exact kr_cell hk4b (kc hb2b q2b) h2) (first
        | (go_at_call 65; first
            | (refine (cloneI_c A c l _ _ (Own.rd_ len_x1 (HOb.out.call (below_drew_ w4a)) rfl) HCA.out (by omega)).mono ?_; rintro e w1b ⟨v1b, rfl, ho1b, hb1b⟩)
            | (refine (cloneI_c A c l _ _ (Own.rd_ len_x1 ((HOb.out.call (below_alloc1 w4a (.cells #[.int .i64 1] 2))).call (below_drew_ _)) rfl) HCA.out (by omega)).mono ?_; rintro e w1b ⟨v1b, rfl, ho1b, hb1b⟩))
        | (refine stepGInt64 _ _ rfl rfl v1b l 1 _ rfl (ho1b.call (below_alloc1 w1b (.cells #[.int .i64 1] 2))) (Nat.le_trans hb1b.size (below_alloc1 w1b (.cells #[.int .i64 1] 2)).size) rfl ((Blk.new w1b 2 #[.int .i64 1]).cell 0) hbl ?_; intro v2b w2b hown2 hg2; have hb2b : Below w4a.heap.size w4a w2b := bel_own (bel_call (bel_call (below_drew_ w4a) hb1b (below_drew_ w4a).size) (below_alloc1 w1b (.cells #[.int .i64 1] 2)) (Nat.le_trans (below_drew_ w4a).size hb1b.size)) hg2 (Nat.le_trans (Nat.le_trans (below_drew_ w4a).size hb1b.size) (below_alloc1 w1b (.cells #[.int .i64 1] 2)).size) (by cases hq : v1b.ownBlock with | none => exact .inl rfl | some q => exact .inr ⟨q, rfl, (ho1b.lt q hq).1⟩); rw [HLEb.out] at hown2; obtain ⟨A2, c2, e2'⟩ := own_form hown2; subst e2')
        | (refine stepGInt64 _ _ rfl rfl v1b l 1 _ rfl ho1b hb1b.size rfl (kc hb1b ((Blk.new w4a 2 #[.int .i64 1]).cell 0)) hbl ?_; intro v2b w2b hown2 hg2; have hb2b : Below w4a.heap.size w4a w2b := bel_own (bel_call (bel_call (below_alloc1 w4a (.cells #[.int .i64 1] 2)) (below_drew_ _) (below_alloc1 w4a (.cells #[.int .i64 1] 2)).size) hb1b (Nat.le_trans (below_alloc1 w4a (.cells #[.int .i64 1] 2)).size (below_drew_ _).size)) hg2 (Nat.le_trans (Nat.le_trans (below_alloc1 w4a (.cells #[.int .i64 1] 2)).size (below_drew_ _).size) hb1b.size) (by cases hq : v1b.ownBlock with | none => exact .inl rfl | some q => exact .inr ⟨q, rfl, Nat.le_trans (below_alloc1 w4a (.cells #[.int .i64 1] 2)).size (ho1b.lt q hq).1⟩); rw [HLEb.out] at hown2; obtain ⟨A2, c2, e2'⟩ := own_form hown2; subst e2')
        | (go_at_call 64; refine (HRECb.out A2 c2 w2b hb2b (hown2.base_ (by first | exact hb1b.size | exact Nat.le_trans (below_alloc1 w4a (.cells #[.int .i64 1] 2)).size (Nat.le_refl _) | simp))).mono ?_; rintro e w4b ⟨rfl, hs4b, hk4b⟩))
      all_goals
        have HKb := Lib.hid ((keptR_below hb2b gb (gb + 2)).trans hk4b)
        obtain ⟨bVb, hs4b⟩ := hs4b
        have HS4b := Lib.hid hs4b
        clear hb1b hb2b hk4b hs4b hown2 hg2 ho1b q2b
        have HE := Lib.hid (show goS R d lb sta = goS R (d + 1) l st by rw [goS_succ, HLEa.out, HLEb.out, HSTA.out])
        go_wp2
        refine bodyPost_ret (results_none rfl _ _ _) rfl ?_
        exact ⟨rfl, ⟨bVb, by rw [← HE.out]; exact HS4b.out⟩, HKa.out.trans HKb.out⟩

theorem Blk.cast_ {w : World} {g g' : Nat} {t : TypeId} {cs : List Value} (h : Blk w g t cs) (e : g = g') : Blk w g' t cs := e ▸ h
theorem alloc_size (w : World) (o : Obj) : (w.alloc o).heap.size = w.heap.size + 1 := by simp
theorem blk_five (w : World) (t0 t1 t2 t3 t4 : TypeId) (c0 c1 c2 c3 c4 : Array Value) :
    Blk (((((w.alloc (.cells c0 t0)).alloc (.cells c1 t1)).alloc (.cells c2 t2)).alloc (.cells c3 t3)).alloc (.cells c4 t4)) w.heap.size t0 c0.toList ∧
    Blk (((((w.alloc (.cells c0 t0)).alloc (.cells c1 t1)).alloc (.cells c2 t2)).alloc (.cells c3 t3)).alloc (.cells c4 t4)) (w.heap.size + 1) t1 c1.toList ∧
    Blk (((((w.alloc (.cells c0 t0)).alloc (.cells c1 t1)).alloc (.cells c2 t2)).alloc (.cells c3 t3)).alloc (.cells c4 t4)) (w.heap.size + 1 + 1) t2 c2.toList ∧
    Blk (((((w.alloc (.cells c0 t0)).alloc (.cells c1 t1)).alloc (.cells c2 t2)).alloc (.cells c3 t3)).alloc (.cells c4 t4)) (w.heap.size + 1 + 1 + 1) t3 c3.toList ∧
    Blk (((((w.alloc (.cells c0 t0)).alloc (.cells c1 t1)).alloc (.cells c2 t2)).alloc (.cells c3 t3)).alloc (.cells c4 t4)) (w.heap.size + 1 + 1 + 1 + 1) t4 c4.toList ∧
    (((((w.alloc (.cells c0 t0)).alloc (.cells c1 t1)).alloc (.cells c2 t2)).alloc (.cells c3 t3)).alloc (.cells c4 t4)).heap.size = w.heap.size + 1 + 1 + 1 + 1 + 1 ∧
    Below w.heap.size w (((((w.alloc (.cells c0 t0)).alloc (.cells c1 t1)).alloc (.cells c2 t2)).alloc (.cells c3 t3)).alloc (.cells c4 t4)) := by
  refine ⟨((((Blk.new w t0 c0).alloc _).alloc _).alloc _).alloc _, ((((Blk.new (w.alloc (.cells c0 t0)) t1 c1).cast_ (alloc_size _ _)).alloc _).alloc _).alloc _, (((Blk.new ((w.alloc (.cells c0 t0)).alloc (.cells c1 t1)) t2 c2).cast_ (by simp only [alloc_size])).alloc _).alloc _, ((Blk.new (((w.alloc (.cells c0 t0)).alloc (.cells c1 t1)).alloc (.cells c2 t2)) t3 c3).cast_ (by simp only [alloc_size])).alloc _, (Blk.new ((((w.alloc (.cells c0 t0)).alloc (.cells c1 t1)).alloc (.cells c2 t2)).alloc (.cells c3 t3)) t4 c4).cast_ (by simp only [alloc_size]), by simp only [alloc_size], ?_⟩
  refine Below.alloc (Below.alloc (Below.alloc (Below.alloc (below_alloc1 w _) ?_ _) ?_ _) ?_ _) ?_ _ <;> simp only [alloc_size] <;> omega
set_option maxHeartbeats 8000000 in
set_option maxRecDepth 100000 in
theorem BestSplit_c (A : Option Addr) (c : Nat) (L : List (Int × Int × Int × Int)) (fo : Int) (w : World) (hR : Rd e4 4 w w.heap.size A L) (hn : L.length ≤ maxLen) :
    Calls Try.prog 30 #[.slice A L.length c, .int .i64 fo] w fun e w' => ∃ v, e = .returned (.tuple #[v, .int .i64 (bsSt L fo).2, .int .i64 (bsCode L fo)]) ∧ Own e1 1 w' w.heap.size 2 v (bsSt L fo).1 ∧ Below w.heap.size w w' := by
  cases h : millsOk L
  · have HC := Lib.hid (show bsCode L fo = 1 by simp [bsCode, h])
    have HF := Lib.hid (show bsSt L fo = ([], 0) by simp [bsSt, HC.out])
    have H1 := Lib.hid h
    clear h
    go_enter Try.func30, Try.ntmps30
    go_wp2_with fail
    refine (areMills_c _ _ L _ (hR.call (below_alloc1 w (.cells #[.slice A L.length c] 44))) hn).mono ?_
    rintro e w1 ⟨rfl, hb1⟩
    rw [H1.out]
    have q1 := kc hb1 ((Blk.new w 44 #[.slice A L.length c]).cell 0)
    have HB1 := Lib.hid (bel_call (below_alloc1 w (.cells #[.slice A L.length c] 44)) hb1 (below_alloc1 w (.cells #[.slice A L.length c] 44)).size)

    go_wp2
    go_ret3
    exact ⟨_, by rw [HC.out, HF.out]; rfl, by rw [HF.out]; exact own_empty_at HB1.out.size, HB1.out.alloc HB1.out.size _⟩
  have H1 := Lib.hid h
  have hl := millsOk_len h
  cases h2 : inB fo 0 12
  · have HC := Lib.hid (show bsCode L fo = 2 by simp [bsCode, h, h2])
    have HF := Lib.hid (show bsSt L fo = ([], 0) by simp [bsSt, HC.out])
    have H2 := Lib.hid h2
    clear h h2
    go_enter Try.func30, Try.ntmps30
    go_wp2_with fail
    refine (areMills_c _ _ L _ (hR.call (below_alloc1 w (.cells #[.slice A L.length c] 44))) hn).mono ?_
    rintro e w1 ⟨rfl, hb1⟩
    rw [H1.out]
    have q1 := kc hb1 ((Blk.new w 44 #[.slice A L.length c]).cell 0)
    have HB1 := Lib.hid (bel_call (below_alloc1 w (.cells #[.slice A L.length c] 44)) hb1 (below_alloc1 w (.cells #[.slice A L.length c] 44)).size)
    go_wp2_with fail
    refine (force_c _ _).mono ?_
    rintro e w' ⟨rfl, rfl⟩
    rw [H2.out]

    go_wp2
    go_ret3
    exact ⟨_, by rw [HC.out, HF.out]; rfl, by rw [HF.out]; exact own_empty_at HB1.out.size, HB1.out.alloc HB1.out.size _⟩
  have H2 := Lib.hid h2
  have hfo := inB_iff.1 h2
  by_cases h3 : L.length = 1
  · have HC := Lib.hid (show bsCode L fo = 6 by simp [bsCode, h, h2, h3])
    have HF := Lib.hid (show bsSt L fo = ([], 0) by simp [bsSt, HC.out])
    have hb : ((L.length : Int) == 1) = true := by rw [h3]; rfl
    clear h h2 h3 hl
    go_enter Try.func30, Try.ntmps30
    go_wp2_with fail
    refine (areMills_c _ _ L _ (hR.call (below_alloc1 w (.cells #[.slice A L.length c] 44))) hn).mono ?_
    rintro e w1 ⟨rfl, hb1⟩
    rw [H1.out]
    have q1 := kc hb1 ((Blk.new w 44 #[.slice A L.length c]).cell 0)
    have HB1 := Lib.hid (bel_call (below_alloc1 w (.cells #[.slice A L.length c] 44)) hb1 (below_alloc1 w (.cells #[.slice A L.length c] 44)).size)
    go_wp2_with fail
    refine (force_c _ _).mono ?_
    rintro e w' ⟨rfl, rfl⟩
    rw [H2.out]

    go_wp2
    go_ret3
    exact ⟨_, by rw [HC.out, HF.out]; rfl, by rw [HF.out]; exact own_empty_at HB1.out.size, HB1.out.alloc HB1.out.size _⟩
  have HCO := Lib.hid (show bsCode L fo = 0 by simp [bsCode, h, h2, h3])
  have HST := Lib.hid (show bsSt L fo = goS (mrTo L fo L.length) L.length [] ([], -1) by rw [bsSt, if_pos HCO.out])
  have HMB := Lib.hid (mr_bd h fo)
  have HML := Lib.hid (mrTo_len (l := L) (f := fo) (Nat.le_refl L.length))
  have hb : ((L.length : Int) == 1) = false := beq_eq_false_iff_ne.2 (by omega)
  have h2l : 2 ≤ L.length := by omega
  clear h h2 h3
  go_enter Try.func30, Try.ntmps30
  go_wp2_with fail
  refine (areMills_c _ _ L _ (hR.call (below_alloc1 w (.cells #[.slice A L.length c] 44))) hn).mono ?_
  rintro e w1 ⟨rfl, hb1⟩
  rw [H1.out]
  have q1 := kc hb1 ((Blk.new w 44 #[.slice A L.length c]).cell 0)
  have HB1 := Lib.hid (bel_call (below_alloc1 w (.cells #[.slice A L.length c] 44)) hb1 (below_alloc1 w (.cells #[.slice A L.length c] 44)).size)
  go_wp2_with fail
  refine (force_c _ _).mono ?_
  rintro e w' ⟨rfl, rfl⟩
  rw [H2.out]

  go_wp2_with fail
  refine (millRates_c _ _ L fo _ ((hR.below HB1.out).more HB1.out.size) H1.out hfo.1 hfo.2).mono ?_
  rintro e w2 ⟨vR, rfl, hoR, hb2⟩
  obtain ⟨AR, cR, rfl⟩ := own_form hoR
  have HB2 := Lib.hid (bel_call HB1.out hb2 HB1.out.size)
  have q2 := kc hb2 q1
  have HOR := Lib.hid hoR
  clear hb1 hb2 hoR q1
  generalize hRe : mrTo L fo L.length = R at *
  have HRE := Lib.hid hRe
  clear hRe
  have hsz2 := HB2.out.size
  have hq2 := World.block_lt_of_cell? _ _ q2
  obtain ⟨z0, z1, z2, z3, z4, zs, zb⟩ := blk_five w2 22 2 22 2 93 #[.slice AR R.length cR] #[] #[.slice (some ⟨w2.heap.size + 1, 0, none⟩) 0 0] #[.int .i64 (-1)] #[(.func (.func 64) #[] #[.pointer (some ⟨w.heap.size, 0, none⟩), .pointer (some ⟨w2.heap.size + 1 + 1 + 1 + 1, 0, none⟩), .pointer (some ⟨w2.heap.size, 0, none⟩), .pointer (some ⟨w2.heap.size + 1 + 1 + 1, 0, none⟩), .pointer (some ⟨w2.heap.size + 1 + 1, 0, none⟩)])]
  obtain ⟨wy, hwy⟩ : ∃ wy, wy = (((((w2.alloc (.cells #[.slice AR R.length cR] 22)).alloc (.cells #[] 2)).alloc (.cells #[.slice (some ⟨w2.heap.size + 1, 0, none⟩) 0 0] 22)).alloc (.cells #[.int .i64 (-1)] 2)).alloc (.cells #[(.func (.func 64) #[] #[.pointer (some ⟨w.heap.size, 0, none⟩), .pointer (some ⟨w2.heap.size + 1 + 1 + 1 + 1, 0, none⟩), .pointer (some ⟨w2.heap.size, 0, none⟩), .pointer (some ⟨w2.heap.size + 1 + 1 + 1, 0, none⟩), .pointer (some ⟨w2.heap.size + 1 + 1, 0, none⟩)])] 93)) := ⟨_, rfl⟩
  rw [← hwy] at z0 z1 z2 z3 z4 zs zb
  obtain ⟨wz, hwz⟩ : ∃ wz, wz = wy.alloc (.cells #[] 2) := ⟨_, rfl⟩
  have ho := own_empty (enc := e1) (sz := 1) wy 2
  rw [← hwz, zs] at ho
  have hby := below_alloc1 wy (.cells #[] 2)
  rw [← hwz] at hby
  have hyz := hby.size
  have hbz := bel_call zb hby zb.size
  have hrf : ∀ g, (Value.slice AR R.length cR).ownBlock = some g → g < w2.heap.size + 1 + 1 ∨ w2.heap.size + 1 + 1 + 2 ≤ g := fun g hg => .inl (Nat.lt_of_lt_of_le (HOR.out.lt g hg).2 (by omega))
  have HW := Lib.hid (show BsW w.heap.size (w2.heap.size + 1 + 1 + 1 + 1) w2.heap.size (w2.heap.size + 1 + 1) w.heap.size L.length A AR c cR R wz from
    ⟨kc hbz q2, (z4.call hby).cell 0, (z0.call hby).cell 0, (HOR.out.call hbz).base_ HB1.out.size, hrf, by omega⟩)
  have HS := Lib.hid (show BsS (w2.heap.size + 1 + 1) w.heap.size wz ([], -1) (.slice (some ⟨w2.heap.size + 1, 0, none⟩) 0 0) from
    ⟨z2.call hby, z3.call hby, ⟨by simp, .inr ⟨w2.heap.size + 1, 0, #[], rfl, by omega, z1.call hby, Nat.le_refl _, by unfold maxLen; omega, by simp, by simp⟩⟩, fun g hg => .inl (by simp [Value.ownBlock] at hg; omega)⟩)
  have HO := Lib.hid (ho.base_ (show w.heap.size ≤ w2.heap.size + 1 + 1 + 1 + 1 + 1 by omega))
  have HBZ := Lib.hid (bel_call HB2.out hbz hsz2)
  have hwz2 := hwz
  rw [hwy] at hwz2
  have HWZ := Lib.hid hwz2
  have hsw : w.heap.size ≤ wz.heap.size := by omega
  clear hwz hwy hwz2 ho z0 z1 z2 z3 z4 zb zs hby hyz hbz
  go_wp2_with fail
  rw [← HWZ.out]
  refine (bs_c w.heap.size (w2.heap.size + 1 + 1 + 1 + 1) w2.heap.size (w2.heap.size + 1 + 1) w.heap.size L.length A AR c cR R (.inl (by omega)) (.inr (by omega)) (.inl (by omega)) w.heap.size (Nat.le_refl _) L.length _ 0 [] ([], -1) _ wz HW.out HS.out HO.out (fun g hg => .inr (by simp [Value.ownBlock] at hg; omega)) (Nat.zero_add _) HML.out hl.2 (fun k x hx => by simp at hx) HMB.out (by simp) hsw).mono ?_
  rintro e w5 ⟨rfl, ⟨bV, hS5⟩, hk5⟩
  have HO5 := Lib.hid hS5.own
  have m0 : w5.cell? ⟨w2.heap.size + 1 + 1, 0, none⟩ = some bV := hS5.best.cell 0
  have m1 : w5.cell? ⟨w2.heap.size + 1 + 1 + 1, 0, none⟩ = some (.int .i64 (goS R L.length [] ([], -1)).2) := hS5.most.cell 0
  have HB5 := Lib.hid (HBZ.out.trans (show Below w.heap.size wz w5 from ⟨hk5.os, hk5.tape, hk5.output, hk5.size, fun i hi => hk5.block i (Nat.lt_of_lt_of_le hi hsw) (.inl (by omega))⟩))
  clear hS5 hk5
  generalize hst : goS R L.length [] ([], -1) = st at *
  have HE := Lib.hid hst
  clear hst
  go_wp2
  go_quiet (fail)
  go_wp2
  go_ret3
  exact ⟨_, by rw [HCO.out, HST.out]; rfl, by rw [HST.out]; exact HO5.out.call (below_drewN_ _ _), bel_dN HB5.out _⟩

theorem bits_all : (List.range 256).all (fun X => decide (bits .and .i64 (X : Int) 1 = ((X % 2 : Nat) : Int))) = true := by kernel_rfl
theorem bits_at {x m : Nat} (h : x + 1 ≤ 255) : bits .and .i64 (((x : Int) + 1) / 2 ^ m) 1 = (((x + 1) / 2 ^ m % 2 : Nat) : Int) := by
  have h2 : (x + 1) / 2 ^ m ≤ 255 := Nat.le_trans (Nat.div_le_self _ _) h
  have e : ((x : Int) + 1) / 2 ^ m = (((x + 1) / 2 ^ m : Nat) : Int) := by simp
  rw [e]
  have := List.all_eq_true.1 bits_all ((x + 1) / 2 ^ m) (by simp; omega)
  exact of_decide_eq_true this
theorem bitRow_at {n k m : Nat} (x : Nat) (h : k < n) (hm : m = n - 1 - k) : (bitRow n x)[k]? = some ((x / 2 ^ m % 2 : Nat) : Int) := by
  subst hm
  rw [bitRow, List.getElem?_map, List.getElem?_range h]; rfl
theorem bitRow_take {n k m : Nat} (x : Nat) (h : k < n) (hm : m = n - 1 - k) : (bitRow n x).take (k + 1) = (bitRow n x).take k ++ [((x / 2 ^ m % 2 : Nat) : Int)] := by
  rw [List.take_add_one, bitRow_at x h hm]; rfl
theorem wrap_pow2 {n N : Nat} (h : 2 ^ n = N) (hN : N ≤ 256) : wrap64 (2 ^ n) = (N : Int) := by
  have e : ((2 : Int) ^ n) = (N : Int) := by rw [← h]; simp
  rw [e]
  unfold wrap64
  omega
set_option maxHeartbeats 8000000 in
set_option maxRecDepth 100000 in
theorem lBestSplit_c (A : Option Addr) (c : Nat) (L : List (Int × Int × Int × Int)) (fo : Int) (w : World) (hR : Rd e4 4 w w.heap.size A L) (hn : L.length ≤ maxLen) :
    Calls Try.prog 29 #[.slice A L.length c, .int .i64 fo] w fun e w' => ∃ v, e = .returned (.tuple #[v, .int .i64 (bsSt L fo).2, .int .i64 (bsCode L fo)]) ∧ Own e1 1 w' w.heap.size 2 v (bsSt L fo).1 ∧ Below w.heap.size w w' := by
  cases h : millsOk L
  · have HC := Lib.hid (show bsCode L fo = 1 by simp [bsCode, h])
    have HF := Lib.hid (show bsSt L fo = ([], 0) by simp [bsSt, HC.out])
    have H1 := Lib.hid h
    clear h
    go_enter Try.func29, Try.ntmps29
    go_wp2_with fail
    refine (l10List_c _ _ L _ hR hn).mono ?_
    rintro e w1 ⟨rfl, hb1⟩
    rw [H1.out]

    go_wp2
    go_ret3
    exact ⟨_, by rw [HC.out, HF.out]; rfl, by rw [HF.out]; exact Own.nil_, hb1⟩
  have H1 := Lib.hid h
  have hl := millsOk_len h
  cases h2 : inB fo 0 12
  · have HC := Lib.hid (show bsCode L fo = 2 by simp [bsCode, h, h2])
    have HF := Lib.hid (show bsSt L fo = ([], 0) by simp [bsSt, HC.out])
    have H2 := Lib.hid h2
    clear h h2
    go_enter Try.func29, Try.ntmps29
    go_wp2_with fail
    refine (l10List_c _ _ L _ hR hn).mono ?_
    rintro e w1 ⟨rfl, hb1⟩
    rw [H1.out]
    go_wp2_with fail
    refine (lforce_c _ _).mono ?_
    rintro e w' ⟨rfl, rfl⟩
    rw [H2.out]

    go_wp2
    go_ret3
    exact ⟨_, by rw [HC.out, HF.out]; rfl, by rw [HF.out]; exact Own.nil_, hb1⟩
  have H2 := Lib.hid h2
  have hfo := inB_iff.1 h2
  by_cases h3 : L.length = 1
  · have HC := Lib.hid (show bsCode L fo = 6 by simp [bsCode, h, h2, h3])
    have HF := Lib.hid (show bsSt L fo = ([], 0) by simp [bsSt, HC.out])
    have hb : ((L.length : Int) == 1) = true := by rw [h3]; rfl
    clear h h2 h3 hl
    go_enter Try.func29, Try.ntmps29
    go_wp2_with fail
    refine (l10List_c _ _ L _ hR hn).mono ?_
    rintro e w1 ⟨rfl, hb1⟩
    rw [H1.out]
    go_wp2_with fail
    refine (lforce_c _ _).mono ?_
    rintro e w' ⟨rfl, rfl⟩
    rw [H2.out]

    go_wp2
    go_ret3
    exact ⟨_, by rw [HC.out, HF.out]; rfl, by rw [HF.out]; exact Own.nil_, hb1⟩
  have HCO := Lib.hid (show bsCode L fo = 0 by simp [bsCode, h, h2, h3])
  have h2l : 2 ≤ L.length := by omega
  have HST := Lib.hid (show bsSt L fo = spS (mrTo L fo L.length) L.length (2 ^ L.length - 2) by rw [bsSt, if_pos HCO.out]; exact split_eq h2l hl.2 _)
  have HMB := Lib.hid (mr_bd h fo)
  have HML := Lib.hid (mrTo_len (l := L) (f := fo) (Nat.le_refl L.length))
  have HMR := Lib.hid (show ∀ (i : Nat) (m : Int × Int × Int × Int), L[i]? = some m → (mrTo L fo L.length)[i]? = some (rateOf m fo) from fun i m hm => by rw [mrTo, List.take_length, List.getElem?_map, hm]; rfl)
  have HOK := Lib.hid (show ∀ (i : Nat) (x : Int × Int × Int × Int), L[i]? = some x → millOk x = true from fun i x hx => millsOk_at h hx)
  have hb : ((L.length : Int) == 1) = false := beq_eq_false_iff_ne.2 (by omega)
  clear h h2 h3
  go_enter Try.func29, Try.ntmps29
  go_wp2_with fail
  refine (l10List_c _ _ L _ hR hn).mono ?_
  rintro e w1 ⟨rfl, hb1⟩
  rw [H1.out]
  go_wp2_with fail
  refine (lforce_c _ _).mono ?_
  rintro e w' ⟨rfl, rfl⟩
  rw [H2.out]

  have HB1 := Lib.hid hb1
  clear hb1
  generalize hRe : mrTo L fo L.length = R at *
  have HRE := Lib.hid hRe
  clear hRe
  obtain ⟨N, hN⟩ : ∃ N, N = 2 ^ L.length := ⟨_, rfl⟩
  have hN2 : 4 ≤ N ∧ N ≤ 256 := by
    rw [hN]
    exact ⟨Nat.pow_le_pow_right (n := 2) (by omega) h2l, Nat.pow_le_pow_right (n := 2) (by omega) hl.2⟩
  have HSH := Lib.hid (show wrap64 (2 ^ L.length) = (N : Int) from wrap_pow2 hN.symm hN2.2)
  have HN := Lib.hid hN
  clear hN
  go_wp2
  go_loopw [8, 9, 10] (fun v m b wr => ∃ x : Nat, x ≤ N - 2 ∧ m = .int .i64 (spS R L.length x).2 ∧ b = .int .i64 ((x : Int) + 1) ∧ Own e1 1 wr w.heap.size 2 v (spS R L.length x).1 ∧ Below w.heap.size w wr) (fun _ _ b _ => N - (intOf b).toNat)
  case atStart => exact ⟨0, by omega, rfl, rfl, own_empty_at HB1.out.size, HB1.out.alloc HB1.out.size _⟩
  case round =>
    obtain ⟨x, hx, rfl, rfl, ho, hb⟩ := hrel
    have hsz := hb.size
    have HO := Lib.hid ho
    have HB := Lib.hid hb
    clear ho hb
    obtain ⟨wo, hwo⟩ : ∃ wo : World, wo = wr := ⟨_, rfl⟩
    subst hwo
    by_cases hlt : x < N - 2
    · have hcN : (x : Int) + 1 + 1 < wrap64 (2 ^ L.length) := by rw [HSH.out]; omega
      obtain ⟨wi, hwi⟩ : ∃ wi, wi = (wo.alloc (.cells #[] 2)).alloc (.cells #[.int .i64 0, .int .i64 0] 2) := ⟨_, rfl⟩
      have e1' : (wo.alloc (.cells #[] 2)).heap.size = wo.heap.size + 1 := alloc_size _ _
      have HBK := Lib.hid (show Blk wi (wo.heap.size + 1) 2 [.int .i64 0, .int .i64 0] by rw [hwi, ← e1']; exact Blk.new _ 2 #[.int .i64 0, .int .i64 0])
      have HOW := Lib.hid (show Own e1 1 wi wo.heap.size 2 (.slice (some ⟨wo.heap.size, 0, none⟩) 0 0) ([] : List Int) by rw [hwi]; exact (own_empty wo 2).call (below_alloc1 _ _))
      have HBW := Lib.hid (show Below wo.heap.size wo wi by rw [hwi]; exact bel_call (below_alloc1 wo _) (below_alloc1 _ _) (below_alloc1 wo _).size)
      have HWI := Lib.hid hwi
      clear hwi e1'
      go_wp2
      rw [← HWI.out]
      go_loopw [11, 13] (fun v i wr' => ∃ k : Nat, k ≤ L.length ∧ i = .int .i64 (k : Int) ∧ Own e1 1 wr' wo.heap.size 2 v ((bitRow L.length (x + 1)).take k) ∧ Below wo.heap.size wo wr' ∧ Blk wr' (wo.heap.size + 1) 2 [.int .i64 (ssum R (bitRow L.length (x + 1)) 0 k), .int .i64 (ssum R (bitRow L.length (x + 1)) 1 k)] ∧ v.ownBlock ≠ some (wo.heap.size + 1)) (fun _ i _ => L.length - (intOf i).toNat)
      case atStart => exact ⟨0, by omega, rfl, HOW.out, HBW.out, HBK.out, by simp [Value.ownBlock]⟩
      case round =>
        obtain ⟨k, hk, rfl, ho, hb, hB, hne⟩ := hrel
        have hsz2 := hb.size
        have HO2 := Lib.hid ho
        have HB2 := Lib.hid hb
        have HBK2 := Lib.hid hB
        have HNE := Lib.hid hne
        clear ho hb hB hne
        by_cases hlt2 : k < L.length
        · obtain ⟨m, hm⟩ : ∃ m, m = L.length - 1 - k := ⟨_, rfl⟩
          have d1 : IntKind.i64.wrap ((L.length : Int) - 1) = (L.length : Int) - 1 := by rw [IntWalk.i64_in _ (by omega)]
          have d2 : (L.length : Int) - 1 - (k : Int) = (m : Int) := by omega
          have HM := Lib.hid hm
          have hm8 : m ≤ 8 := by omega
          have hX : x + 1 ≤ 255 := by omega
          have HT := Lib.hid (bitRow_take (n := L.length) (x + 1) hlt2 hm)
          have HXR := Lib.hid (bitRow_at (n := L.length) (x + 1) hlt2 hm)
          have hbt := bits_at (x := x) (m := m) hX
          clear hm
          obtain ⟨b, off, rfl, hbb, hc⟩ := (hR.below HB.out).at4 hlt2
          have ⟨k0, k1, k2, k3⟩ := hc k _ (get_at hlt2)
          have HRK := Lib.hid (HMR.out k _ (get_at hlt2))
          have hok := HOK.out k _ (get_at hlt2)
          have HRB := Lib.hid (rateOf_bd (f := fo) hok)
          have hll : ((bitRow L.length (x + 1)).take k).length = k := by rw [List.length_take, bitRow_len]; omega
          have HLL := Lib.hid hll
          obtain ⟨a0, a1⟩ := ssum_bd HMB.out (bitRow L.length (x + 1)) 0 k
          obtain ⟨c0, c1⟩ := ssum_bd HMB.out (bitRow L.length (x + 1)) 1 k
          have j1 : (0 : Int) ≤ (k : Int) := by omega
          have j2 : (k : Int) < (L.length : Int) := by omega
          clear hc hll
          generalize L[k] = mm at *
          obtain ⟨e, he⟩ : ∃ e, (x + 1) / 2 ^ m % 2 = e := ⟨_, rfl⟩
          rw [he] at HT HXR hbt
          have he2 : e = 0 ∨ e = 1 := by omega
          clear he
          rcases he2 with rfl | rfl
          · have HY := Lib.hid (show ssum R (bitRow L.length (x + 1)) 0 (k + 1) = ssum R (bitRow L.length (x + 1)) 0 k + rateOf mm fo from ssum_yes (R := R) HXR.out HRK.out)
            have HNO := Lib.hid (ssum_no (R := R) (j := 1) HXR.out (by decide))
            go_wp2_with (at_builtin; refine app2Int64 _ _ rfl rfl _ ((bitRow L.length (x + 1)).take k) 0 rfl HO2.out HB2.out rfl (by simp) (by rw [HLL.out]; omega) ?_; intro v3 w3 hown3 hb3 hg3 hat3; have HO3 := Lib.hid hown3; have HB3 := Lib.hid hb3; have HB4 := Lib.hid (HBK2.out.grown hg3 (Ne.symm HNE.out)); have HA3 := Lib.hid (show v3.ownBlock ≠ some (wo.heap.size + 1) by (rcases hat3 with e0 | ⟨g0, e0, hg0⟩; (rw [e0]; exact HNE.out); (rw [e0]; intro hh; injection hh with hh; have := HBK2.out.lt; omega))); clear hown3 hg3 hat3)
            have p0 : w3.cell? ⟨wo.heap.size + 1, 0, none⟩ = some (.int .i64 (ssum R (bitRow L.length (x + 1)) 0 k)) := HB4.out.cell 0
            have pf := HB4.out.frozen
            have pl := HB4.out.lt
            have k0' := kc HB3.out k0
            have k1' := kc HB3.out k1
            have k2' := kc HB3.out k2
            have k3' := kc HB3.out k3
            generalize ssum R (bitRow L.length (x + 1)) 0 k = se at *
            have i1 : IntKind.i64.wrap (se + rateOf mm fo) = se + rateOf mm fo := by rw [IntWalk.i64_in _ (by have := HRB.out; omega)]
            have kp : ∀ W, Below wo.heap.size wo W → (W.cell? ⟨b, off + k * 4, none⟩ = some (.int .i64 mm.1) ∧ W.cell? ⟨b, off + k * 4 + 1, none⟩ = some (.int .i64 mm.2.1) ∧ W.cell? ⟨b, off + k * 4 + 2, none⟩ = some (.int .i64 mm.2.2.1) ∧ W.cell? ⟨b, off + k * 4 + 3, none⟩ = some (.int .i64 mm.2.2.2)) := fun W h => ⟨kc h k0, kc h k1, kc h k2, kc h k3⟩
            have KP := Lib.hid kp
            clear k0 k1 k2 k3 kp
            go_region_with (first
              | (go_at_call 53; refine (l10Rate_c mm fo _ hok hfo.1 hfo.2).mono ?_; rintro e w4 ⟨rfl, hb4⟩; have hb5 : Below w3.heap.size w3 w4 := (by first | exact hb4 | exact bel_call (below_drew_ w3) hb4 (below_drew_ w3).size); have hb6 := bel_call HB3.out hb5 HB3.out.size; have p4 := kc hb5 p0; have f4 := (HB4.out.call hb5).frozen; have l4 := (HB4.out.call hb5).lt))
            all_goals
              have HB5 := Lib.hid hb6
              have HB6 := Lib.hid (HB4.out.call hb5)
              have HO6 := Lib.hid (HO3.out.call hb5)
              clear hb4 hb5 hb6 p4 f4 l4 p0 pf pl k0' k1' k2' k3'
              go_wp2
              go_roundw
              case rel =>
                refine ⟨k + 1, by omega, by go_num, ?_, HB5.out.setCell (p := ⟨wo.heap.size + 1, 0, none⟩) (Nat.le_succ _) _, ?_, HA3.out⟩
                · rw [HT.out]
                  exact HO6.out.grown_ (grown_set (grown_refl w4 (some (wo.heap.size + 1))) 0 _) (.inr HA3.out)
                · rw [HY.out, HNO.out]
                  exact HB6.out.set_ 0 _
              case measure => simp [intOf]; omega
          · have HY := Lib.hid (show ssum R (bitRow L.length (x + 1)) 1 (k + 1) = ssum R (bitRow L.length (x + 1)) 1 k + rateOf mm fo from ssum_yes (R := R) HXR.out HRK.out)
            have HNO := Lib.hid (ssum_no (R := R) (j := 0) HXR.out (by decide))
            go_wp2_with (at_builtin; refine app2Int64 _ _ rfl rfl _ ((bitRow L.length (x + 1)).take k) 1 rfl HO2.out HB2.out rfl (by simp) (by rw [HLL.out]; omega) ?_; intro v3 w3 hown3 hb3 hg3 hat3; have HO3 := Lib.hid hown3; have HB3 := Lib.hid hb3; have HB4 := Lib.hid (HBK2.out.grown hg3 (Ne.symm HNE.out)); have HA3 := Lib.hid (show v3.ownBlock ≠ some (wo.heap.size + 1) by (rcases hat3 with e0 | ⟨g0, e0, hg0⟩; (rw [e0]; exact HNE.out); (rw [e0]; intro hh; injection hh with hh; have := HBK2.out.lt; omega))); clear hown3 hg3 hat3)
            have p0 : w3.cell? ⟨wo.heap.size + 1, 1, none⟩ = some (.int .i64 (ssum R (bitRow L.length (x + 1)) 1 k)) := HB4.out.cell 1
            have pf := HB4.out.frozen
            have pl := HB4.out.lt
            have k0' := kc HB3.out k0
            have k1' := kc HB3.out k1
            have k2' := kc HB3.out k2
            have k3' := kc HB3.out k3
            generalize ssum R (bitRow L.length (x + 1)) 1 k = se at *
            have i1 : IntKind.i64.wrap (se + rateOf mm fo) = se + rateOf mm fo := by rw [IntWalk.i64_in _ (by have := HRB.out; omega)]
            have kp : ∀ W, Below wo.heap.size wo W → (W.cell? ⟨b, off + k * 4, none⟩ = some (.int .i64 mm.1) ∧ W.cell? ⟨b, off + k * 4 + 1, none⟩ = some (.int .i64 mm.2.1) ∧ W.cell? ⟨b, off + k * 4 + 2, none⟩ = some (.int .i64 mm.2.2.1) ∧ W.cell? ⟨b, off + k * 4 + 3, none⟩ = some (.int .i64 mm.2.2.2)) := fun W h => ⟨kc h k0, kc h k1, kc h k2, kc h k3⟩
            have KP := Lib.hid kp
            clear k0 k1 k2 k3 kp
            go_region_with (first
              | (go_at_call 53; refine (l10Rate_c mm fo _ hok hfo.1 hfo.2).mono ?_; rintro e w4 ⟨rfl, hb4⟩; have hb5 : Below w3.heap.size w3 w4 := (by first | exact hb4 | exact bel_call (below_drew_ w3) hb4 (below_drew_ w3).size); have hb6 := bel_call HB3.out hb5 HB3.out.size; have p4 := kc hb5 p0; have f4 := (HB4.out.call hb5).frozen; have l4 := (HB4.out.call hb5).lt))
            all_goals
              have HB5 := Lib.hid hb6
              have HB6 := Lib.hid (HB4.out.call hb5)
              have HO6 := Lib.hid (HO3.out.call hb5)
              clear hb4 hb5 hb6 p4 f4 l4 p0 pf pl k0' k1' k2' k3'
              go_wp2
              go_roundw
              case rel =>
                refine ⟨k + 1, by omega, by go_num, ?_, HB5.out.setCell (p := ⟨wo.heap.size + 1, 1, none⟩) (Nat.le_succ _) _, ?_, HA3.out⟩
                · rw [HT.out]
                  exact HO6.out.grown_ (grown_set (grown_refl w4 (some (wo.heap.size + 1))) 1 _) (.inr HA3.out)
                · rw [HY.out, HNO.out]
                  exact HB6.out.set_ 1 _
              case measure => simp [intOf]; omega
        · obtain rfl : k = L.length := by omega
          obtain ⟨row, hrow⟩ : ∃ row, bitRow L.length (x + 1) = row := ⟨_, rfl⟩
          have hrl := bitRow_len L.length (x + 1)
          have HSS := Lib.hid (spS_succ R L.length x)
          rw [hrow] at HO2 HBK2 hrl HSS
          rw [List.take_of_length_le (by omega)] at HO2
          have HRW := Lib.hid hrow
          clear hrow
          have p0 : wr.cell? ⟨wo.heap.size + 1, 0, none⟩ = some (.int .i64 (ssum R row 0 L.length)) := HBK2.out.cell 0
          have p1 : wr.cell? ⟨wo.heap.size + 1, 1, none⟩ = some (.int .i64 (ssum R row 1 L.length)) := HBK2.out.cell 1
          have HSC := Lib.hid (show score R row = min (ssum R row 0 L.length) (ssum R row 1 L.length) by rw [score, hrl])
          generalize ssum R row 0 L.length = s0 at *
          generalize ssum R row 1 L.length = s1 at *
          obtain ⟨sc, hsc⟩ : ∃ sc, min s0 s1 = sc := ⟨_, rfl⟩
          rw [hsc] at HSC
          obtain ⟨st, hst⟩ : ∃ st, spS R L.length x = st := ⟨_, rfl⟩
          simp only [hst] at *
          have HSTX := Lib.hid hst
          clear hst hrl
          by_cases hgt : st.2 < sc
          · have HQ := Lib.hid (show spS R L.length (x + 1) = (row, sc) by rw [HSS.out, stq, HSC.out, if_pos hgt])
            go_wp2
            go_quiet ((go_at_call 63; exact Calls.quiet_of_same (lminq_c _ _ _)))
            go_wp2
            generalize hwd : wr.drewN _ = wd
            have p0' : wd.cell? ⟨wo.heap.size + 1, 0, none⟩ = some (.int .i64 s0) := by rw [← hwd]; exact p0
            have p1' : wd.cell? ⟨wo.heap.size + 1, 1, none⟩ = some (.int .i64 s1) := by rw [← hwd]; exact p1
            have HBD := Lib.hid (show Below wr.heap.size wr wd by rw [← hwd]; exact below_drewN_ _ _)
            clear hwd p0 p1
            go_quiet ((go_at_call 63; exact Calls.quiet_of_same (lminq_c _ _ _)))
            go_wp2
            go_roundw
            case rel => exact ⟨x + 1, by omega, by rw [HQ.out]; first | rfl | (rw [← hsc]), by go_num, by rw [HQ.out]; exact ((HO2.out.call HBD.out).call (below_drewN_ _ _)).base_ hsz, bel_dN (bel_call (bel_call HB.out HB2.out hsz) HBD.out (Nat.le_trans hsz hsz2)) _⟩
            case measure => simp [intOf]; omega
          · have HQ := Lib.hid (show spS R L.length (x + 1) = st by rw [HSS.out, stq, HSC.out, if_neg hgt])
            go_wp2
            go_quiet ((go_at_call 63; exact Calls.quiet_of_same (lminq_c _ _ _)))
            go_wp2
            go_roundw
            case rel => exact ⟨x + 1, by omega, by rw [HQ.out], by go_num, by rw [HQ.out]; exact (HO.out.call (HB2.out)).call (below_drewN_ _ _), bel_dN (bel_call HB.out HB2.out hsz) _⟩
            case measure => simp [intOf]; omega
    · obtain rfl : x = N - 2 := by omega
      have hcN : ¬ (((N - 2 : Nat) : Int) + 1 + 1 < wrap64 (2 ^ L.length)) := by rw [HSH.out]; omega
      have HX := Lib.hid (show spS R L.length (2 ^ L.length - 2) = spS R L.length (N - 2) by rw [HN.out])
      go_wp2
      go_ret3
      exact ⟨_, by rw [HCO.out, HST.out, HX.out]; rfl, by rw [HST.out, HX.out]; exact HO.out, HB.out⟩

end Go.Proofs.Ytbaffjjafkpcfaa
