/- For every curve and every breach the program's ValidBreach answers as the reference's; the curve reads on as it did. No condition. -/
import Derived.Test.YtbaffjjafkpcfaaWValidBreach
namespace Go.Proofs.Ytbaffjjafkpcfaa
open Go.RowKit Go.ChangeShapes Go.WideShapes Go.ChangeAt

set_option maxRecDepth 100000 in
theorem validBreach_lifted (os : Os) (started : os.Started) (H : Type) (enc : TypeId × Value → H) :
    ReturnsInHanded {} Try.checked os 7 .any (Rows.fnExactValidBreachSpec.pre6 enc Try.prog Try.f7 Rows.fnExactValidBreachRow.domain false) (Rows.fnExactValidBreachSpec.post enc Try.prog Try.f7 false true false false) := by
  refine returnsInHanded_of_change (C := Try.checked) Try.own started (by kernel_rfl) Try.func7
    (ChangeSpec.witness6 (enc := enc) (C := Try.checked) false ⟨#[], #[.agg #[.slice none 0 0, .slice none 0 0], .agg #[.int .i64 0, .int .i64 0, .int .i64 0]], []⟩ 8 (by kernel_rfl) (by kernel_rfl) (by kernel_rfl) (by kernel_rfl)) ?_
  intro W base args ds gs before hval0 hW _ _
  have hval : ∀ (j : Nat) t v, Try.f7.params[j]? = some t → args[j]? = some v → Value.okWide Try.prog W .any base t v := hval0
  have hW' := hW
  obtain ⟨p, q, hA0, hV, hpq, _, _⟩ := hW
  have hA : DataW.TrodAll enc Try.prog W 0 (fun _ => true) true Try.f7.params.toList args.toList ds p := hA0
  have hA' := hA
  rw [Try.params7] at hA hval
  obtain ⟨v0, vs0, d0, ds0, p0, q0, hargs, rfl, rfl, h0, r0⟩ := trodAll_cons hA
  obtain ⟨v1, vs1, d1, ds1, p1, q1, rfl, rfl, rfl, h1, r1⟩ := trodAll_cons r0
  obtain ⟨rfl, rfl, rfl⟩ := trodAll_nil r1
  obtain rfl : args = #[v0, v1] := by cases args; simp_all
  obtain ⟨rfl, rfl⟩ := trodVars_none hV
  have hpost : ∀ W' : World, Below W.heap.size W W' → Rows.fnExactValidBreachSpec.post enc Try.prog Try.f7 false true false false W #[v0, v1] (.bool true) W' := fun W' hb =>
    law_post hW' hA' rfl rfl rfl Try.underlying4 Try.laidOut (by rw [Try.params7]; intro t ht; simp only [List.mem_cons, List.not_mem_nil, or_false] at ht; rcases ht with rfl | rfl <;> exact ⟨by kernel_rfl, of_decide_eq_true (by kernel_rfl)⟩) hb (by rw [hpq]; simp)
  clear hW' hA' hV hA0 hval0
  obtain ⟨A0, B0, c0, e0, L0, M0, rfl, hc0, hm0, hd0, hk0, hR0, hS0⟩ := opCurve Try.underlying53 (by kernel_rfl) (by kernel_rfl) Try.underlying22 (by kernel_rfl) Try.underlying2 Try.underlying22 (hval 0 53 v0 rfl rfl) h0
  obtain ⟨a1_0, a1_1, a1_2, rfl, f1_0, f1_1, f1_2⟩ := op3 Try.underlying55 (by kernel_rfl) (by kernel_rfl) Try.underlying2 Try.underlying2 Try.underlying2 (hval 1 55 v1 rfl rfl) h1
  refine (validBreach_walk A0 B0 c0 e0 L0 M0 a1_0 a1_1 a1_2  W hc0 hm0 hd0 hk0 hR0 hS0 f1_0 f1_1 f1_2).mono fun e W' ⟨he, hb⟩ => ?_
  subst he
  exact ⟨_, rfl, hpost _ hb⟩

theorem validBreach_holds : Rows.FnExactValidBreachSaid :=
  OpenClaim.holds_of_wide 7 Try.f7 rfl rfl rfl rfl rfl rfl rfl ⟨rfl, rfl, rfl, rfl, rfl⟩ rfl rfl rfl rfl rfl (by kernel_rfl) Try.func7 (by kernel_rfl)
    (of_decide_eq_true (by kernel_rfl)) (by unfold Func.isWrapper; first | (rw [if_pos (by decide +kernel)]; kernel_rfl) | (rw [if_neg (by decide +kernel)]; exact ⟨rfl, rfl⟩))
    (fun os started H enc _ => validBreach_lifted os started H enc)


end Go.Proofs.Ytbaffjjafkpcfaa
