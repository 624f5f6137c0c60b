/-
  The law ProgressMeets of layer 13 holds at every input: it answers true and leaves its arguments as they were. No condition.
-/
import Derived.Test.YtlcnpfiiijehmaaMeets
import Derived.Test.YtlcnpfiiijehmaaRowV
import Derived.Test.YtlcnpfiiijehmaaRowK
set_option linter.unusedVariables false
set_option linter.unusedSimpArgs false
namespace Go.Proofs.Ytlcnpfiiijehmaa
open Go.ChangeShapes Go.WideShapes Go.ChangeAt Go.RowKit

set_option maxRecDepth 100000 in
theorem progressMeets_lifted (os : Os) (started : os.Started) (H : Type) (enc : TypeId × Value → H) :
    ReturnsInHanded {} Try.checked os 7 .any (Rows.progressMeetsSpec.pre6 enc Try.prog Try.f7 Rows.progressMeetsRow.domain false) (Rows.progressMeetsSpec.post enc Try.prog Try.f7 false true false false) := by
  refine returnsInHanded_of_change_sized (C := Try.checked) own started (by kernel_rfl) Try.func7
    (ChangeSpec.witness6 (enc := enc) (C := Try.checked) false ⟨#[], #[.slice none 0 0, .int .i64 0, .int .i64 0, .slice none 0 0], []⟩ 8 (by kernel_rfl) (by kernel_rfl) (by kernel_rfl) (by kernel_rfl)) ?_
  intro W base args ds gs before hval0 hW hcnd hsz _
  have hval : ∀ (j : Nat) t v, Try.f7.params[j]? = some t → args[j]? = some v → Value.okWide Try.prog W .any base t v := hval0
  have hW' := hW
  obtain ⟨p, q, hA0, hV, hpq, hfz, hnd⟩ := hW
  have hA : DataW.TrodAll enc Try.prog W 0 (fun _ => true) true Try.f7.params.toList args.toList ds p := hA0
  rw [Try.params7] at hA hval
  obtain ⟨v0, v1, v2, v3, d0, d1, d2, d3, p0, p1, p2, p3, rfl, rfl, _, h0, h1, h2, h3⟩ := trodAll_four hA
  obtain ⟨A0, n0, c0, rfl⟩ := okWide_slice Try.underlying25 (hval 0 25 v0 rfl rfl)
  obtain ⟨l0, ⟨⟨_, _, e0, hc0, hm0, hs0⟩, hi0⟩, hb0⟩ := open_top (opens_ints Try.underlying25 Try.underlying3 (by kernel_rfl) (by kernel_rfl)) h0
  have hB0 := hb0 _ (reach_of hsz (j := 0) rfl rfl)
  simp [Value.cells] at e0
  obtain ⟨rfl, rfl, rfl⟩ := e0
  obtain ⟨x1, rfl⟩ := okWide_int Try.underlying3 (hval 1 3 v1 rfl rfl)
  obtain ⟨y1, ⟨e1, wf1⟩, _⟩ := open_top (opens_int .i64 Try.underlying3) h1
  have hx1 : IntOk x1 := by
    simp [Value.cells] at e1
    rw [e1]
    exact intOk_of wf1
  obtain ⟨x2, rfl⟩ := okWide_int Try.underlying3 (hval 2 3 v2 rfl rfl)
  obtain ⟨y2, ⟨e2, wf2⟩, _⟩ := open_top (opens_int .i64 Try.underlying3) h2
  have hx2 : IntOk x2 := by
    simp [Value.cells] at e2
    rw [e2]
    exact intOk_of wf2
  obtain ⟨A3, n3, c3, rfl⟩ := okWide_slice Try.underlying25 (hval 3 25 v3 rfl rfl)
  obtain ⟨l3, ⟨⟨_, _, e3, hc3, hm3, hs3⟩, hi3⟩, hb3⟩ := open_top (opens_ints Try.underlying25 Try.underlying3 (by kernel_rfl) (by kernel_rfl)) h3
  have hB3 := hb3 _ (reach_of hsz (j := 3) rfl rfl)
  simp [Value.cells] at e3
  obtain ⟨rfl, rfl, rfl⟩ := e3
  refine (meets_any A0 A3 l0.length c0 l3.length c3 l0 l3 x1 x2 W rfl (by have := hB0; omega) hs0 rfl (by have := hB3; omega) hs3 hx1 hx2).mono fun e W' h => ?_
  exact post_true laidOut (by kernel_rfl) Try.underlying4 (by kernel_rfl) rfl hW' (fun hg => by subst hg; rfl) h

theorem progressMeets_holds : Rows.ProgressMeetsSaid :=
  OpenClaim.holds_of_wide 7 Try.f7 rfl rfl rfl rfl rfl rfl rfl ⟨rfl, rfl, rfl, rfl, rfl⟩ rfl rfl rfl rfl rfl (by kernel_rfl) Try.func7 (by kernel_rfl)
    (of_decide_eq_true (by kernel_rfl)) (by unfold Func.isWrapper; first | (rw [if_pos (by decide +kernel)]; kernel_rfl) | (rw [if_neg (by decide +kernel)]; exact ⟨rfl, rfl⟩))
    (fun os started H enc _ => progressMeets_lifted os started H enc)
#print axioms progressMeets_holds
end Go.Proofs.Ytlcnpfiiijehmaa
