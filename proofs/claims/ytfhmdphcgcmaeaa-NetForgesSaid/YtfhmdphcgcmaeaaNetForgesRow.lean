/-
  The law NetForges of layer 17 holds at every input: it answers true and leaves its arguments as they were. No condition.
-/
import Derived.Test.YtfhmdphcgcmaeaaNetF
import Derived.Test.YtfhmdphcgcmaeaaNetRowLib
set_option linter.unusedVariables false
set_option linter.unusedSimpArgs false
namespace Go.Proofs.Ytfhmdphcgcmaeaa
open Go.ChangeShapes Go.WideShapes Go.ChangeAt Go.RowKit

set_option maxRecDepth 100000 in
theorem netForges_lifted (os : Os) (started : os.Started) (H : Type) (enc : TypeId × Value → H) :
    ReturnsInHanded {} Try.checked os 4 .any (Rows.netForgesSpec.pre6 enc Try.prog Try.f4 Rows.netForgesRow.domain false) (Rows.netForgesSpec.post enc Try.prog Try.f4 false true false false) := by
  refine returnsInHanded_of_change_sized (C := Try.checked) own started (by kernel_rfl) Try.func4
    (ChangeSpec.witness6 (enc := enc) (C := Try.checked) false ⟨#[], #[.slice none 0 0], []⟩ 8 (by kernel_rfl) (by kernel_rfl) (by kernel_rfl) (by kernel_rfl)) ?_
  intro W base args ds gs before hval0 hW hcnd hsz _
  have hval : ∀ (j : Nat) t v, Try.f4.params[j]? = some t → args[j]? = some v → Value.okWide Try.prog W .any base t v := hval0
  have hW' := hW
  obtain ⟨p, q, hA0, hV, hpq, hfz, hnd⟩ := hW
  have hA : DataW.TrodAll enc Try.prog W 0 (fun _ => true) true Try.f4.params.toList args.toList ds p := hA0
  rw [Try.params4] at hA hval
  obtain ⟨v0, d0, rfl, rfl, h0⟩ := trodAll_one hA
  obtain ⟨A, n, c, rfl⟩ := okWide_slice Try.underlying41 (hval 0 41 v0 rfl rfl)
  obtain ⟨os, hos, hb⟩ := open_top opens_ops h0
  have hB := hb _ (reach_of hsz (j := 0) rfl rfl)
  obtain ⟨A', c', cells, e, h1, h2, h3, h4⟩ := hos
  simp [Value.cells] at e
  obtain ⟨rfl, rfl, rfl⟩ := e
  refine (netForges_any A os c W ⟨cells, h3, h4.imp fun j o cs ho hr => ?_⟩ h1 (by omega)).mono fun e W' h => ?_
  · obtain ⟨A1, c1, B1, d1, e, q1, q2, q3, q4, _⟩ := hr
    have hbo := hB.2 o (List.mem_of_getElem? ho)
    exact ⟨A1, c1, B1, d1, e, q1, hbo.1, q2, q3, by omega, q4⟩
  exact post_true laidOut (by kernel_rfl) Try.underlying4 (by kernel_rfl) rfl hW' (fun hg => by subst hg; rfl) h

theorem netForges_holds : Rows.NetForgesSaid :=
  OpenClaim.holds_of_wide 4 Try.f4 rfl rfl rfl rfl rfl rfl rfl ⟨rfl, rfl, rfl, rfl, rfl⟩ rfl rfl rfl rfl rfl (by kernel_rfl) Try.func4 (by kernel_rfl)
    (of_decide_eq_true (by kernel_rfl)) (by unfold Func.isWrapper; first | (rw [if_pos (by decide +kernel)]; kernel_rfl) | (rw [if_neg (by decide +kernel)]; exact ⟨rfl, rfl⟩))
    (fun os started H enc _ => netForges_lifted os started H enc)
#print axioms netForges_holds
end Go.Proofs.Ytfhmdphcgcmaeaa
