/-
  The law HistoryLegal of layer 19 holds at every input: it answers true and leaves its arguments as they were. No condition.
-/
import Derived.Test.YtbnbeailbhnbdaaLegal
import Derived.Test.YtbnbeailbhnbdaaRowC
import Derived.Test.YtbnbeailbhnbdaaRowK
set_option linter.unusedVariables false
set_option linter.unusedSimpArgs false
namespace Go.Proofs.Ytbnbeailbhnbdaa
open Go.ChangeShapes Go.WideShapes Go.ChangeAt Go.RowKit

set_option maxRecDepth 100000 in
theorem historyLegal_lifted (os : Os) (started : os.Started) (H : Type) (enc : TypeId × Value → H) :
    ReturnsInHanded {} Try.checked os 8 .any (Rows.historyLegalSpec.pre6 enc Try.prog Try.f8 Rows.historyLegalRow.domain false) (Rows.historyLegalSpec.post enc Try.prog Try.f8 false true false false) := by
  refine returnsInHanded_of_change_sized (C := Try.checked) own started (by kernel_rfl) Try.func8
    (ChangeSpec.witness6 (enc := enc) (C := Try.checked) false ⟨#[], #[.slice none 0 0, .slice none 0 0], []⟩ 8 (by kernel_rfl) (by kernel_rfl) (by kernel_rfl) (by kernel_rfl)) ?_
  intro W base args ds gs before hval0 hW hcnd hsz _
  have hval : ∀ (j : Nat) t v, Try.f8.params[j]? = some t → args[j]? = some v → Value.okWide Try.prog W .any base t v := hval0
  have hW' := hW
  obtain ⟨p, q, hA0, hV, hpq, hfz, hnd⟩ := hW
  have hA : DataW.TrodAll enc Try.prog W 0 (fun _ => true) true Try.f8.params.toList args.toList ds p := hA0
  rw [Try.params8] at hA hval
  obtain ⟨v0, v1, d0, d1, p0, p1, rfl, rfl, _, h0, h1⟩ := trodAll_two hA
  obtain ⟨A0, n0, c0, rfl⟩ := okWide_slice Try.underlying40 (hval 0 40 v0 rfl rfl)
  obtain ⟨l0, hl0, hb0⟩ := open_top opens_calls h0
  have hB0 := hb0 _ (reach_of hsz (j := 0) rfl rfl)
  obtain ⟨⟨rfl, hc0⟩, hs0⟩ := seenC_of hl0
  obtain ⟨A1, n1, c1, rfl⟩ := okWide_slice Try.underlying41 (hval 1 41 v1 rfl rfl)
  obtain ⟨l1, ⟨⟨_, _, e1, hc1, hm1, hs1⟩, hi1⟩, hb1⟩ := open_top (opens_ints Try.underlying41 Try.underlying3 (by kernel_rfl) (by kernel_rfl)) h1
  have hB1 := hb1 _ (reach_of hsz (j := 1) rfl rfl)
  simp [Value.cells] at e1
  obtain ⟨rfl, rfl, rfl⟩ := e1
  refine (legallaw_any A0 A1 l0 l1 l0.length c0 l1.length c1 W hs0 rfl hB0.1 hB0.2 hs1 rfl (by omega)).mono fun e W' h => ?_
  exact post_true laidOut (by kernel_rfl) Try.underlying4 (by kernel_rfl) rfl hW' (fun hg => by subst hg; rfl) h

theorem historyLegal_holds : Rows.HistoryLegalSaid :=
  OpenClaim.holds_of_wide 8 Try.f8 rfl rfl rfl rfl rfl rfl rfl ⟨rfl, rfl, rfl, rfl, rfl⟩ rfl rfl rfl rfl rfl (by kernel_rfl) Try.func8 (by kernel_rfl)
    (of_decide_eq_true (by kernel_rfl)) (by unfold Func.isWrapper; first | (rw [if_pos (by decide +kernel)]; kernel_rfl) | (rw [if_neg (by decide +kernel)]; exact ⟨rfl, rfl⟩))
    (fun os started H enc _ => historyLegal_lifted os started H enc)
#print axioms historyLegal_holds
end Go.Proofs.Ytbnbeailbhnbdaa
