/- For every sluice, every two lists of levels and every number of hours the program's BestHours answers as the reference's; the lists read on as they did. No condition. -/
import Derived.Test.YtcdpgdpabmlpdaaWBestHours
namespace Go.Proofs.Ytcdpgdpabmlpdaa
open Go.RowKit Go.ChangeShapes Go.WideShapes Go.ChangeAt

set_option maxRecDepth 100000 in
theorem bestHours_lifted (os : Os) (started : os.Started) (H : Type) (enc : TypeId × Value → H) :
    ReturnsInHanded {} Try.checked os 3 .any (Rows.fnExactBestHoursSpec.pre6 enc Try.prog Try.f3 Rows.fnExactBestHoursRow.domain false) (Rows.fnExactBestHoursSpec.post enc Try.prog Try.f3 false true false false) := by
  refine returnsInHanded_of_change (C := Try.checked) Try.own started (by kernel_rfl) Try.func3
    (ChangeSpec.witness6 (enc := enc) (C := Try.checked) false ⟨#[], #[.agg #[.int .i64 0, .int .i64 0], .slice none 0 0, .slice none 0 0, .int .i64 0], []⟩ 8 (by kernel_rfl) (by kernel_rfl) (by kernel_rfl) (by kernel_rfl)) ?_
  intro W base args ds gs before hval0 hW _ _
  have hval : ∀ (j : Nat) t v, Try.f3.params[j]? = some t → args[j]? = some v → Value.okWide Try.prog W .any base t v := hval0
  have hW' := hW
  obtain ⟨p, q, hA0, hV, hpq, _, _⟩ := hW
  have hA : DataW.TrodAll enc Try.prog W 0 (fun _ => true) true Try.f3.params.toList args.toList ds p := hA0
  have hA' := hA
  rw [Try.params3] at hA hval
  obtain ⟨v0, vs0, d0, ds0, p0, q0, hargs, rfl, rfl, h0, r0⟩ := trodAll_cons hA
  obtain ⟨v1, vs1, d1, ds1, p1, q1, rfl, rfl, rfl, h1, r1⟩ := trodAll_cons r0
  obtain ⟨v2, vs2, d2, ds2, p2, q2, rfl, rfl, rfl, h2, r2⟩ := trodAll_cons r1
  obtain ⟨v3, vs3, d3, ds3, p3, q3, rfl, rfl, rfl, h3, r3⟩ := trodAll_cons r2
  obtain ⟨rfl, rfl, rfl⟩ := trodAll_nil r3
  obtain rfl : args = #[v0, v1, v2, v3] := by cases args; simp_all
  obtain ⟨rfl, rfl⟩ := trodVars_none hV
  have hpost : ∀ W' : World, Below W.heap.size W W' → Rows.fnExactBestHoursSpec.post enc Try.prog Try.f3 false true false false W #[v0, v1, v2, v3] (.bool true) W' := fun W' hb =>
    law_post hW' hA' rfl rfl rfl Try.underlying4 Try.laidOut (by rw [Try.params3]; intro t ht; simp only [List.mem_cons, List.not_mem_nil, or_false] at ht; rcases ht with rfl | rfl | rfl | rfl <;> exact ⟨by kernel_rfl, of_decide_eq_true (by kernel_rfl)⟩) hb (by rw [hpq]; simp)
  clear hW' hA' hV hA0 hval0
  obtain ⟨a0_0, a0_1, rfl, f0_0, f0_1⟩ := op2 Try.underlying23 (by kernel_rfl) (by kernel_rfl) Try.underlying2 Try.underlying2 (hval 0 23 v0 rfl rfl) h0
  obtain ⟨A1, c1, L1, rfl, hc1, hm1, hg1, hR1⟩ := opS1 (enc' := e1) Fit Try.underlying24 (by kernel_rfl) (fun _ => rfl) (fun V n y hy => by obtain ⟨x, rfl, hx⟩ := field_int Try.underlying2 hy; exact ⟨x, wf_i64 hx, rfl⟩) (hval 1 24 v1 rfl rfl) h1
  obtain ⟨A2, c2, L2, rfl, hc2, hm2, hg2, hR2⟩ := opS1 (enc' := e1) Fit Try.underlying24 (by kernel_rfl) (fun _ => rfl) (fun V n y hy => by obtain ⟨x, rfl, hx⟩ := field_int Try.underlying2 hy; exact ⟨x, wf_i64 hx, rfl⟩) (hval 2 24 v2 rfl rfl) h2
  obtain ⟨a3, rfl, rfl, rfl, wa3⟩ := open_int Try.underlying2 (hval 3 2 v3 rfl rfl) h3
  have fa3 : Fit a3 := wf_i64 wa3
  refine (bestHours_walk a0_0 a0_1 A1 c1 L1 A2 c2 L2 a3  W f0_0 f0_1 hc1 hm1 hg1 hR1 hc2 hm2 hg2 hR2 fa3).mono fun e W' ⟨he, hb⟩ => ?_
  subst he
  exact ⟨_, rfl, hpost _ hb⟩

theorem bestHours_holds : Rows.FnExactBestHoursSaid :=
  OpenClaim.holds_of_wide 3 Try.f3 rfl rfl rfl rfl rfl rfl rfl ⟨rfl, rfl, rfl, rfl, rfl⟩ rfl rfl rfl rfl rfl (by kernel_rfl) Try.func3 (by kernel_rfl)
    (of_decide_eq_true (by kernel_rfl)) (by unfold Func.isWrapper; first | (rw [if_pos (by decide +kernel)]; kernel_rfl) | (rw [if_neg (by decide +kernel)]; exact ⟨rfl, rfl⟩))
    (fun os started H enc _ => bestHours_lifted os started H enc)


end Go.Proofs.Ytcdpgdpabmlpdaa
