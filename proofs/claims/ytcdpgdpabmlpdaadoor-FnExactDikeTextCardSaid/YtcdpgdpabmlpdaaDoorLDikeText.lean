/- For every list of sections the program's DikeText answers as the reference's, and the list reads on as it did. No condition. -/
import Derived.Test.YtcdpgdpabmlpdaaDoorWDikeText
namespace Go.Proofs.YtcdpgdpabmlpdaaDoor
open Go.RowKit Go.ChangeShapes Go.WideShapes Go.ChangeAt

set_option maxRecDepth 100000 in
theorem dikeText_lifted (os : Os) (started : os.Started) (H : Type) (enc : TypeId × Value → H) :
    ReturnsInHanded {} Tryd.checked os 6 .any (fun w args => (Rows.fnExactDikeTextSpec.pre enc Tryd.prog Tryd.f6 [] false w args ∧ laidMetH Tryd.prog laidA w) ∧ sizedMet enc Tryd.prog Tryd.f6 (OpenSpec.ofChange Rows.fnExactDikeTextSpec) false w args)
      (Rows.fnExactDikeTextSpec.post enc Tryd.prog Tryd.f6 false true false false) := by
  refine returnsInHanded_of_change_and (C := Tryd.checked) (X := (fun w _ => laidMetH Tryd.prog laidA w)) (fun _ _ _ hh h => h.of_heap hh) Tryd.own started (by kernel_rfl) Tryd.func6
    (ChangeSpec.witness_shaped (enc := enc) (C := Tryd.checked) (os := os) (X := (fun w _ => laidMetH Tryd.prog laidA w)) false (World.doorLaid Tryd.prog 72 os) #[.slice none 0 0] 8 rfl (World.shaped_of_RefB (by kernel_rfl) (by kernel_rfl)) (by kernel_rfl) (by kernel_rfl) (by kernel_rfl) (door_metA os _)) ?_
  intro W base args ds gs before hval0 hW _ _ hL _
  have hpw := pow_A hL
  have hval : ∀ (j : Nat) t v, Tryd.f6.params[j]? = some t → args[j]? = some v → Value.okWide Tryd.prog W .any base t v := hval0
  have hW' := hW
  obtain ⟨p, q, hA0, hV, hpq, _, _⟩ := hW
  have hA : DataW.TrodAll enc Tryd.prog W 0 (fun _ => true) true Tryd.f6.params.toList args.toList ds p := hA0
  have hA' := hA
  rw [Tryd.params6] at hA hval
  obtain ⟨v0, vs0, d0, ds0, p0, q0, hargs, rfl, rfl, h0, r0⟩ := trodAll_cons hA
  obtain ⟨rfl, rfl, rfl⟩ := trodAll_nil r0
  obtain rfl : args = #[v0] := by cases args; simp_all
  obtain ⟨rfl, rfl⟩ := trodVars_none hV
  have hpost : ∀ W' : World, Below W.heap.size W W' → Rows.fnExactDikeTextSpec.post enc Tryd.prog Tryd.f6 false true false false W #[v0] (.bool true) W' := fun W' hb =>
    law_post hW' hA' rfl rfl rfl Tryd.underlying4 Tryd.laidOut (by rw [Tryd.params6]; intro t ht; simp only [List.mem_cons, List.not_mem_nil, or_false] at ht; rcases ht with rfl <;> exact ⟨by kernel_rfl, of_decide_eq_true (by kernel_rfl)⟩) hb (by rw [hpq]; simp)
  clear hW' hA' hV hA0 hval0
  obtain ⟨A0, c0, L0, rfl, hc0, hm0, hg0, hR0⟩ := opS (enc' := e2) Fit2 Tryd.underlying36 Tryd.underlying68 (by kernel_rfl) (by kernel_rfl) (by decide) (fun _ => rfl) (fun V n hV => by
      obtain ⟨y0, hy0⟩ := hV 0 _ rfl; obtain ⟨x0, k0, z0⟩ := field_int Tryd.underlying2 hy0; obtain ⟨y1, hy1⟩ := hV 1 _ rfl; obtain ⟨x1, k1, z1⟩ := field_int Tryd.underlying2 hy1
      refine ⟨(x0, x1), ⟨wf_i64 z0, wf_i64 z1⟩, fun j u hu => ?_⟩
      match j, hu with
        | 0, hu => rw [k0]; exact (Option.some.inj hu).symm
         | 1, hu => rw [k1]; exact (Option.some.inj hu).symm
        | (q + 2), hu => simp at hu) (hval 0 36 v0 rfl rfl) h0
  refine (dikeText_walk A0 c0 L0  W hc0 hm0 hg0 hR0 hpw).mono fun e W' ⟨he, hb⟩ => ?_
  subst he
  exact ⟨_, rfl, hpost _ hb⟩

theorem dikeText_said : Rows.FnExactDikeTextSaid :=
  OpenClaim.holds_of_wide 6 Tryd.f6 rfl rfl rfl rfl rfl rfl rfl ⟨rfl, rfl, rfl, rfl, rfl⟩ rfl rfl rfl rfl rfl (by kernel_rfl) Tryd.func6 (by kernel_rfl)
    (of_decide_eq_true (by kernel_rfl)) (by unfold Func.isWrapper; first | (rw [if_pos (by decide +kernel)]; kernel_rfl) | (rw [if_neg (by decide +kernel)]; exact ⟨rfl, rfl⟩))
    (fun os started H enc _ => dikeText_lifted os started H enc)

theorem dikeText_holds : Rows.FnExactDikeTextCardSaid :=
  Claim7.holds_tied_plain_at .later [] [.data, .data, .data] true (true, "6514dac724dba8d19e3940fc71aede47116b6c297acd34377e0ed85c05e126ac") true
    dikeText_said (fun _ h => by cases h) (by kernel_rfl) (fun _ h => by cases h) fnExactDikeText_row_tie rfl ⟨rfl, rfl⟩ (by kernel_rfl) rfl
    (fun f fn hf hfn => by
      obtain rfl : f = 6 := Option.some.inj ((show Tryd.prog.funcNamed "loop.example/g01032/laws.FnExactDikeText" = some 6 by kernel_rfl).symm.trans hf) |>.symm
      obtain rfl : fn = Tryd.f6 := (Option.some.inj (Tryd.func6.symm.trans hfn)).symm
      exact ⟨by kernel_rfl, fun j t ht => by
        rw [Tryd.params6] at ht
        have hm : t ∈ [36] := by simpa using Array.mem_of_getElem? ht
        have hall : ([36].all fun u => !Tryd.prog.wantsStandIn u) = true := by kernel_rfl
        exact (show Tryd.prog.wantsStandIn t = false by simpa using List.all_eq_true.1 hall t hm)⟩)
    (by kernel_rfl)


end Go.Proofs.YtcdpgdpabmlpdaaDoor
