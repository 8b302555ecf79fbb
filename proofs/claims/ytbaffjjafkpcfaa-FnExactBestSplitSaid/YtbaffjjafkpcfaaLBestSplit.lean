/- For every list of mills and every force the program's BestSplit answers as the reference's; the list reads on as it did. No condition. -/
import Derived.Test.YtbaffjjafkpcfaaWBestSplit
namespace Go.Proofs.Ytbaffjjafkpcfaa
open Go.RowKit Go.ChangeShapes Go.WideShapes Go.ChangeAt

set_option maxRecDepth 100000 in
theorem bestSplit_lifted (os : Os) (started : os.Started) (H : Type) (enc : TypeId × Value → H) :
    ReturnsInHanded {} Try.checked os 6 .any (Rows.fnExactBestSplitSpec.pre6 enc Try.prog Try.f6 Rows.fnExactBestSplitRow.domain false) (Rows.fnExactBestSplitSpec.post enc Try.prog Try.f6 false true false false) := by
  refine returnsInHanded_of_change (C := Try.checked) Try.own started (by kernel_rfl) Try.func6
    (ChangeSpec.witness6 (enc := enc) (C := Try.checked) false ⟨#[], #[.slice none 0 0, .int .i64 0], []⟩ 8 (by kernel_rfl) (by kernel_rfl) (by kernel_rfl) (by kernel_rfl)) ?_
  intro W base args ds gs before hval0 hW _ _
  have hval : ∀ (j : Nat) t v, Try.f6.params[j]? = some t → args[j]? = some v → Value.okWide Try.prog W .any base t v := hval0
  have hW' := hW
  obtain ⟨p, q, hA0, hV, hpq, _, _⟩ := hW
  have hA : DataW.TrodAll enc Try.prog W 0 (fun _ => true) true Try.f6.params.toList args.toList ds p := hA0
  have hA' := hA
  rw [Try.params6] at hA hval
  obtain ⟨v0, vs0, d0, ds0, p0, q0, hargs, rfl, rfl, h0, r0⟩ := trodAll_cons hA
  obtain ⟨v1, vs1, d1, ds1, p1, q1, rfl, rfl, rfl, h1, r1⟩ := trodAll_cons r0
  obtain ⟨rfl, rfl, rfl⟩ := trodAll_nil r1
  obtain rfl : args = #[v0, v1] := by cases args; simp_all
  obtain ⟨rfl, rfl⟩ := trodVars_none hV
  have hpost : ∀ W' : World, Below W.heap.size W W' → Rows.fnExactBestSplitSpec.post enc Try.prog Try.f6 false true false false W #[v0, v1] (.bool true) W' := fun W' hb =>
    law_post hW' hA' rfl rfl rfl Try.underlying4 Try.laidOut (by rw [Try.params6]; intro t ht; simp only [List.mem_cons, List.not_mem_nil, or_false] at ht; rcases ht with rfl | rfl <;> exact ⟨by kernel_rfl, of_decide_eq_true (by kernel_rfl)⟩) hb (by rw [hpq]; simp)
  clear hW' hA' hV hA0 hval0
  obtain ⟨A0, c0, L0, rfl, hc0, hm0, hg0, hR0⟩ := opS (enc' := e4) Fit4 Try.underlying41 Try.underlying86 (by kernel_rfl) (by kernel_rfl) (by decide) (fun _ => rfl) (fun V n hV => by
      obtain ⟨y0, hy0⟩ := hV 0 _ rfl; obtain ⟨x0, k0, z0⟩ := field_int Try.underlying2 hy0; obtain ⟨y1, hy1⟩ := hV 1 _ rfl; obtain ⟨x1, k1, z1⟩ := field_int Try.underlying2 hy1; obtain ⟨y2, hy2⟩ := hV 2 _ rfl; obtain ⟨x2, k2, z2⟩ := field_int Try.underlying2 hy2; obtain ⟨y3, hy3⟩ := hV 3 _ rfl; obtain ⟨x3, k3, z3⟩ := field_int Try.underlying2 hy3
      refine ⟨(x0, x1, x2, x3), ⟨wf_i64 z0, wf_i64 z1, wf_i64 z2, wf_i64 z3⟩, fun j u hu => ?_⟩
      match j, hu with
        | 0, hu => rw [k0]; exact (Option.some.inj hu).symm
         | 1, hu => rw [k1]; exact (Option.some.inj hu).symm
         | 2, hu => rw [k2]; exact (Option.some.inj hu).symm
         | 3, hu => rw [k3]; exact (Option.some.inj hu).symm
        | (q + 4), hu => simp at hu) (hval 0 41 v0 rfl rfl) h0
  obtain ⟨a1, rfl, rfl, rfl, wa1⟩ := open_int Try.underlying2 (hval 1 2 v1 rfl rfl) h1
  have fa1 : Fit a1 := wf_i64 wa1
  refine (bestSplit_walk A0 c0 L0 a1  W hc0 hm0 hg0 hR0 fa1).mono fun e W' ⟨he, hb⟩ => ?_
  subst he
  exact ⟨_, rfl, hpost _ hb⟩

theorem bestSplit_holds : Rows.FnExactBestSplitSaid :=
  OpenClaim.holds_of_wide 6 Try.f6 rfl rfl rfl rfl rfl rfl rfl ⟨rfl, rfl, rfl, rfl, rfl⟩ rfl rfl rfl rfl rfl (by kernel_rfl) Try.func6 (by kernel_rfl)
    (of_decide_eq_true (by kernel_rfl)) (by unfold Func.isWrapper; first | (rw [if_pos (by decide +kernel)]; kernel_rfl) | (rw [if_neg (by decide +kernel)]; exact ⟨rfl, rfl⟩))
    (fun os started H enc _ => bestSplit_lifted os started H enc)


end Go.Proofs.Ytbaffjjafkpcfaa
