/-
  The law NetWalls of layer 17 holds at every input: it answers true and leaves its arguments as they were. No condition.
-/
import Derived.Test.YtfhmdphcgcmaeaaNetW
import Derived.Test.YtfhmdphcgcmaeaaNetRowLib
set_option linter.unusedVariables false
set_option linter.unusedSimpArgs false
namespace Go.Proofs.Ytfhmdphcgcmaeaa
open Go.ChangeShapes Go.WideShapes Go.ChangeAt Go.RowKit

set_option maxRecDepth 100000 in
theorem netWalls_lifted (os : Os) (started : os.Started) (H : Type) (enc : TypeId × Value → H) :
    ReturnsInHanded {} Try.checked os 5 .any (Rows.netWallsSpec.pre6 enc Try.prog Try.f5 Rows.netWallsRow.domain false) (Rows.netWallsSpec.post enc Try.prog Try.f5 false true false false) := by
  refine returnsInHanded_of_change_sized (C := Try.checked) own started (by kernel_rfl) Try.func5
    (ChangeSpec.witness6 (enc := enc) (C := Try.checked) false ⟨#[], #[.slice none 0 0, .slice none 0 0], []⟩ 8 (by kernel_rfl) (by kernel_rfl) (by kernel_rfl) (by kernel_rfl)) ?_
  intro W base args ds gs before hval0 hW hcnd hsz _
  have hval : ∀ (j : Nat) t v, Try.f5.params[j]? = some t → args[j]? = some v → Value.okWide Try.prog W .any base t v := hval0
  have hW' := hW
  obtain ⟨p, q, hA0, hV, hpq, hfz, hnd⟩ := hW
  have hA : DataW.TrodAll enc Try.prog W 0 (fun _ => true) true Try.f5.params.toList args.toList ds p := hA0
  rw [Try.params5] at hA hval
  obtain ⟨v0, v1, d0, d1, p0, p1, rfl, rfl, _, h0, h1⟩ := trodAll_two hA
  obtain ⟨A, n, c, rfl⟩ := okWide_slice Try.underlying22 (hval 0 22 v0 rfl rfl)
  obtain ⟨B, m, d, rfl⟩ := okWide_slice Try.underlying43 (hval 1 43 v1 rfl rfl)
  obtain ⟨ls, hls, hb⟩ := open_top opens_letters h0
  obtain ⟨ts, ⟨⟨_, _, e, ht1, _, ht2⟩, ht3⟩, hb1⟩ := open_top (opens_ints Try.underlying43 Try.underlying3 (by kernel_rfl) (by kernel_rfl)) h1
  have hB := hb _ (reach_of hsz (j := 0) rfl rfl)
  have hB1 := hb1 _ (reach_of hsz (j := 1) rfl rfl)
  simp [Value.cells] at e
  obtain ⟨rfl, rfl, rfl⟩ := e
  obtain ⟨e, h2, hL⟩ := seenL_of hls hB.2
  obtain ⟨rfl, hlc⟩ := e
  refine (netWalls_any A ls c B ts d W hL ht2 (fun i hi => WalkArith.wf_i64 (by have := ht3 i hi; unfold IntOk at this; omega)) hlc (by omega) ht1 (by omega)).mono fun e W' h => ?_
  exact post_true laidOut (by kernel_rfl) Try.underlying4 (by kernel_rfl) rfl hW' (fun hg => by subst hg; rfl) h

theorem netWalls_holds : Rows.NetWallsSaid :=
  OpenClaim.holds_of_wide 5 Try.f5 rfl rfl rfl rfl rfl rfl rfl ⟨rfl, rfl, rfl, rfl, rfl⟩ rfl rfl rfl rfl rfl (by kernel_rfl) Try.func5 (by kernel_rfl)
    (of_decide_eq_true (by kernel_rfl)) (by unfold Func.isWrapper; first | (rw [if_pos (by decide +kernel)]; kernel_rfl) | (rw [if_neg (by decide +kernel)]; exact ⟨rfl, rfl⟩))
    (fun os started H enc _ => netWalls_lifted os started H enc)
#print axioms netWalls_holds
end Go.Proofs.Ytfhmdphcgcmaeaa
