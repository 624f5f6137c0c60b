/-
  The law ConfGrows holds at every input: it answers true and leaves its arguments as they were. No condition.
-/
import Derived.Test.YtopcgnilajmnhaaConfL6
import Derived.Test.YtopcgnilajmnhaaRowK
import Derived.Carry
set_option linter.unusedVariables false
set_option linter.unusedSimpArgs false
namespace Go.Proofs.Ytopcgnilajmnhaa
open Go.ChangeShapes Go.WideShapes Go.ChangeAt Go.RowKit

set_option maxRecDepth 100000 in
theorem confGrows_lifted (os : Os) (started : os.Started) (H : Type) (enc : TypeId × Value → H) :
    ReturnsInHanded {} Try.checked os 5 .any (Rows.confGrowsSpec.pre6 enc Try.prog Try.f5 Rows.confGrowsRow.domain false) (Rows.confGrowsSpec.post enc Try.prog Try.f5 false true false false) := by
  refine returnsInHanded_of_change_sized (C := Try.checked) own started (by kernel_rfl) Try.func5
    (ChangeSpec.witness6 (enc := enc) (C := Try.checked) false ⟨#[], #[.slice none 0 0, .slice none 0 0, .int .i64 0, .int .i64 0], []⟩ 8 (by kernel_rfl) (by kernel_rfl) (by kernel_rfl) (by kernel_rfl)) ?_
  intro W base args ds gs before hval0 hW hcnd hsz _
  have hval : ∀ (j : Nat) t v, Try.f5.params[j]? = some t → args[j]? = some v → Value.okWide Try.prog W .any base t v := hval0
  have hW' := hW
  obtain ⟨p, q, hA0, hV, hpq, hfz, hnd⟩ := hW
  have hA : DataW.TrodAll enc Try.prog W 0 (fun _ => true) true Try.f5.params.toList args.toList ds p := hA0
  rw [Try.params5] at hA hval
  obtain ⟨v0, v1, v2, v3, d0, d1, d2, d3, p0, p1, p2, p3, rfl, rfl, _, h0, h1, h2, h3⟩ := trodAll_four hA
  obtain ⟨A0, n0, c0, rfl⟩ := okWide_slice Try.underlying22 (hval 0 22 v0 rfl rfl)
  obtain ⟨l0, ⟨⟨_, _, e0, hc0, hm0, hs0⟩, hi0⟩, hb0⟩ := open_top (opens_ints Try.underlying22 Try.underlying3 (by kernel_rfl) (by kernel_rfl)) h0
  have hB0 := hb0 _ (reach_of hsz (j := 0) rfl rfl)
  simp [Value.cells] at e0
  obtain ⟨rfl, rfl, rfl⟩ := e0
  obtain ⟨A1, n1, c1, rfl⟩ := okWide_slice Try.underlying22 (hval 1 22 v1 rfl rfl)
  obtain ⟨l1, ⟨⟨_, _, e1, hc1, hm1, hs1⟩, hi1⟩, hb1⟩ := open_top (opens_ints Try.underlying22 Try.underlying3 (by kernel_rfl) (by kernel_rfl)) h1
  have hB1 := hb1 _ (reach_of hsz (j := 1) rfl rfl)
  simp [Value.cells] at e1
  obtain ⟨rfl, rfl, rfl⟩ := e1
  obtain ⟨x2, rfl⟩ := okWide_int Try.underlying3 (hval 2 3 v2 rfl rfl)
  obtain ⟨y2, ⟨e2, wf2⟩, _⟩ := open_top (opens_int .i64 Try.underlying3) h2
  have hx2 : IntOk x2 := by
    simp [Value.cells] at e2
    rw [e2]
    exact intOk_of wf2
  obtain ⟨x3, rfl⟩ := okWide_int Try.underlying3 (hval 3 3 v3 rfl rfl)
  obtain ⟨y3, ⟨e3, wf3⟩, _⟩ := open_top (opens_int .i64 Try.underlying3) h3
  have hx3 : IntOk x3 := by
    simp [Value.cells] at e3
    rw [e3]
    exact intOk_of wf3
  refine (confGrows_any A0 A1 l0.length c0 l1 c1 x2 x3 W hc0 hB0 hc1 hB1 hs1 hx2).mono fun e W' h => ?_
  exact post_true laidOut (by kernel_rfl) Try.underlying4 (by kernel_rfl) rfl hW' (fun hg => by subst hg; rfl) h

theorem confGrows_holds : Rows.ConfGrowsSaid :=
  OpenClaim.holds_of_wide 5 Try.f5 rfl rfl rfl rfl rfl rfl rfl ⟨rfl, rfl, rfl, rfl, rfl⟩ rfl rfl rfl rfl rfl (by kernel_rfl) Try.func5 (by kernel_rfl)
    (of_decide_eq_true (by kernel_rfl)) (by unfold Func.isWrapper; first | (rw [if_pos (by decide +kernel)]; kernel_rfl) | (rw [if_neg (by decide +kernel)]; exact ⟨rfl, rfl⟩))
    (fun os started H enc _ => confGrows_lifted os started H enc)
#print axioms confGrows_holds
end Go.Proofs.Ytopcgnilajmnhaa
