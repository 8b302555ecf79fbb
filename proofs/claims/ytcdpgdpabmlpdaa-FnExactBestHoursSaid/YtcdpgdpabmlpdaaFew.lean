/- The contracts of FewestMills: the subsets in their order, and the first that lifts enough. -/
import Derived.Test.YtcdpgdpabmlpdaaSS3
import Derived.Laws.AppendOwnNone
namespace Go.Proofs.Ytcdpgdpabmlpdaa
open Go.RowKit

theorem cloneI_c (A : Option Addr) (c : Nat) (L : List Int) (B : Nat) (w : World) (hR : Rd e1 1 w B A L) (hA : A = none → c = 0) (hl : L.length ≤ 1000000) :
    Calls Try.prog 24 #[.slice A L.length c] w fun e w' => ∃ v, e = .returned v ∧ Own e1 1 w' w.heap.size 2 v L ∧ Below w.heap.size w w' := by
  have hb0 := below_alloc1 w (.cells #[] 2)
  have ho : Own e1 1 (w.alloc (.cells #[] 2)) w.heap.size 2 (.slice (some ⟨w.heap.size, 0, none⟩) 0 0) ([] : List Int) := own_empty w _
  obtain ⟨i0, hi, hz0, hz1, hz2⟩ := info_parts infoInt64
  have HO := Lib.hid ho
  have HB := Lib.hid hb0
  have hR2 : 0 < L.length → Rd e1 1 (w.alloc (.cells #[] 2)) B A L := fun h0 => by
    obtain ⟨b, off, e, hbB, hc⟩ := hR h0
    subst e
    have hlt : b < w.heap.size := World.block_lt_of_cell? w _ (hc 0 h0 0 _ rfl)
    exact fun _ => ⟨b, off, rfl, hbB, fun k hk j v hv => kc hb0 (hc k hk j v hv)⟩
  have HR := Lib.hid hR2
  clear ho hb0 hR hR2
  rcases Nat.eq_zero_or_pos L.length with h0 | h0
  · obtain rfl : L = [] := List.eq_nil_of_length_eq_zero h0
    cases A with
    | none =>
      obtain rfl := hA rfl
      clear hA h0 hl HR
      go_enter Try.func24, Try.ntmps24
      go_wp2_with (at_builtin; refine wpList_append_own_none rfl _ _ 24 rfl w.heap.size 2 i0 1 Try.underlying24 hi _ _ _ rfl HO.out rfl ?_)
      go_ret
      exact ⟨_, rfl, HO.out, HB.out⟩
    | some ad =>
      clear hA h0 hl HR
      go_enter Try.func24, Try.ntmps24
      go_wp2_with (at_builtin; refine wpList_append_own _ rfl _ _ 24 rfl w.heap.size 2 i0 _ 1 8 Try.underlying24 hi hz0 hz1 hz2 rfl (by decide) _ _ _ rfl HO.out ad 0 c [] rfl rfl (fun j u hu => by simp at hu) (fun u hu => by simp at hu) (by unfold maxLen; simp) (by simp) (by simp) ?_; intro v2 w2 hown2 hg2 _; have HB2 := Lib.hid (HB.out.grown hg2 (by simp) (fun k hk => (HO.out.lt k hk).1)); have HO2 := Lib.hid hown2; clear hown2 hg2)
      go_ret
      exact ⟨_, rfl, HO2.out, HB2.out⟩
  · clear hA
    go_enter Try.func24, Try.ntmps24
    go_wp2_with (at_builtin; refine appSInt64 _ _ rfl rfl _ [] L rfl HO.out HB.out rfl (HR.out h0) h0 (by simp; omega) ?_; intro v2 w2 hown2 hb2; have HO2 := Lib.hid hown2; clear hown2)
    go_ret
    exact ⟨_, rfl, HO2.out, hb2⟩

end Go.Proofs.Ytcdpgdpabmlpdaa
