/-
  The law ProgressSends of layer 13 holds at every input: it answers true and leaves its arguments as they were. No condition.
-/
import Derived.Test.YtlcnpfiiijehmaaSends
import Derived.Test.YtlcnpfiiijehmaaRowV
import Derived.Test.YtlcnpfiiijehmaaRowK
set_option linter.unusedVariables false
set_option linter.unusedSimpArgs false
namespace Go.Proofs.Ytlcnpfiiijehmaa
open Go.ChangeShapes Go.WideShapes Go.ChangeAt Go.RowKit

set_option maxRecDepth 100000 in
theorem progressSends_lifted (os : Os) (started : os.Started) (H : Type) (enc : TypeId × Value → H) :
    ReturnsInHanded {} Try.checked os 6 .any (Rows.progressSendsSpec.pre6 enc Try.prog Try.f6 Rows.progressSendsRow.domain false) (Rows.progressSendsSpec.post enc Try.prog Try.f6 false true false false) := by
  refine returnsInHanded_of_change_sized (C := Try.checked) own started (by kernel_rfl) Try.func6
    (ChangeSpec.witness6 (enc := enc) (C := Try.checked) false ⟨#[], #[.agg #[.int .i64 0, .int .i64 0, .slice none 0 0], .int .i64 0], []⟩ 8 (by kernel_rfl) (by kernel_rfl) (by kernel_rfl) (by kernel_rfl)) ?_
  intro W base args ds gs before hval0 hW hcnd hsz _
  have hval : ∀ (j : Nat) t v, Try.f6.params[j]? = some t → args[j]? = some v → Value.okWide Try.prog W .any base t v := hval0
  have hW' := hW
  obtain ⟨p, q, hA0, hV, hpq, hfz, hnd⟩ := hW
  have hA : DataW.TrodAll enc Try.prog W 0 (fun _ => true) true Try.f6.params.toList args.toList ds p := hA0
  rw [Try.params6] at hA hval
  obtain ⟨v0, v1, d0, d1, p0, p1, rfl, rfl, _, h0, h1⟩ := trodAll_two hA
  obtain ⟨cs0, rfl, hz0⟩ := okWide_struct Try.underlying24 (hval 0 24 v0 rfl rfl)
  obtain ⟨l0, ⟨A0, c0, e0, hc0, hs0⟩, hb0⟩ := open_top opens_view h0
  have hB0 := hb0 _ (reach_of hsz (j := 0) rfl rfl)
  obtain rfl : cs0 = #[.int .i64 l0.base, .int .i64 l0.term, .slice A0 l0.l.length c0] := by
    have := congrArg List.toArray e0
    simpa [Value.cells] using this
  obtain ⟨x1, rfl⟩ := okWide_int Try.underlying3 (hval 1 3 v1 rfl rfl)
  obtain ⟨y1, ⟨e1, wf1⟩, _⟩ := open_top (opens_int .i64 Try.underlying3) h1
  have hx1 : IntOk x1 := by
    simp [Value.cells] at e1
    rw [e1]
    exact intOk_of wf1
  refine (sends_any l0 x1 A0 l0.l.length c0 W hx1 rfl hB0.1 hs0 hB0.2).mono fun e W' h => ?_
  exact post_true laidOut (by kernel_rfl) Try.underlying4 (by kernel_rfl) rfl hW' (fun hg => by subst hg; rfl) h

theorem progressSends_holds : Rows.ProgressSendsSaid :=
  OpenClaim.holds_of_wide 6 Try.f6 rfl rfl rfl rfl rfl rfl rfl ⟨rfl, rfl, rfl, rfl, rfl⟩ rfl rfl rfl rfl rfl (by kernel_rfl) Try.func6 (by kernel_rfl)
    (of_decide_eq_true (by kernel_rfl)) (by unfold Func.isWrapper; first | (rw [if_pos (by decide +kernel)]; kernel_rfl) | (rw [if_neg (by decide +kernel)]; exact ⟨rfl, rfl⟩))
    (fun os started H enc _ => progressSends_lifted os started H enc)
#print axioms progressSends_holds
end Go.Proofs.Ytlcnpfiiijehmaa
