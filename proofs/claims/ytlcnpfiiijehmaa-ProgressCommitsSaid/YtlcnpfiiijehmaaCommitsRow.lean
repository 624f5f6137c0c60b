/-
  The law ProgressCommits of layer 13 holds at every input: it answers true and leaves its arguments as they were. No condition.
-/
import Derived.Test.YtlcnpfiiijehmaaCommits
import Derived.Test.YtlcnpfiiijehmaaRowV
import Derived.Test.YtlcnpfiiijehmaaRowK
set_option linter.unusedVariables false
set_option linter.unusedSimpArgs false
namespace Go.Proofs.Ytlcnpfiiijehmaa
open Go.ChangeShapes Go.WideShapes Go.ChangeAt Go.RowKit

set_option maxRecDepth 100000 in
theorem progressCommits_lifted (os : Os) (started : os.Started) (H : Type) (enc : TypeId × Value → H) :
    ReturnsInHanded {} Try.checked os 3 .any (Rows.progressCommitsSpec.pre6 enc Try.prog Try.f3 Rows.progressCommitsRow.domain false) (Rows.progressCommitsSpec.post enc Try.prog Try.f3 false true false false) := by
  refine returnsInHanded_of_change_sized (C := Try.checked) own started (by kernel_rfl) Try.func3
    (ChangeSpec.witness6 (enc := enc) (C := Try.checked) false ⟨#[], #[.agg #[.int .i64 0, .int .i64 0, .slice none 0 0], .slice none 0 0, .slice none 0 0, .int .i64 0, .int .i64 0], []⟩ 8 (by kernel_rfl) (by kernel_rfl) (by kernel_rfl) (by kernel_rfl)) ?_
  intro W base args ds gs before hval0 hW hcnd hsz _
  have hval : ∀ (j : Nat) t v, Try.f3.params[j]? = some t → args[j]? = some v → Value.okWide Try.prog W .any base t v := hval0
  have hW' := hW
  obtain ⟨p, q, hA0, hV, hpq, hfz, hnd⟩ := hW
  have hA : DataW.TrodAll enc Try.prog W 0 (fun _ => true) true Try.f3.params.toList args.toList ds p := hA0
  rw [Try.params3] at hA hval
  obtain ⟨v0, v1, v2, v3, v4, d0, d1, d2, d3, d4, p0, p1, p2, p3, p4, rfl, rfl, _, h0, h1, h2, h3, h4⟩ := trodAll_five hA
  obtain ⟨cs0, rfl, hz0⟩ := okWide_struct Try.underlying24 (hval 0 24 v0 rfl rfl)
  obtain ⟨l0, ⟨A0, c0, e0, hc0, hs0⟩, hb0⟩ := open_top opens_view h0
  have hB0 := hb0 _ (reach_of hsz (j := 0) rfl rfl)
  obtain rfl : cs0 = #[.int .i64 l0.base, .int .i64 l0.term, .slice A0 l0.l.length c0] := by
    have := congrArg List.toArray e0
    simpa [Value.cells] using this
  obtain ⟨A1, n1, c1, rfl⟩ := okWide_slice Try.underlying25 (hval 1 25 v1 rfl rfl)
  obtain ⟨l1, ⟨⟨_, _, e1, hc1, hm1, hs1⟩, hi1⟩, hb1⟩ := open_top (opens_ints Try.underlying25 Try.underlying3 (by kernel_rfl) (by kernel_rfl)) h1
  have hB1 := hb1 _ (reach_of hsz (j := 1) rfl rfl)
  simp [Value.cells] at e1
  obtain ⟨rfl, rfl, rfl⟩ := e1
  obtain ⟨A2, n2, c2, rfl⟩ := okWide_slice Try.underlying25 (hval 2 25 v2 rfl rfl)
  obtain ⟨l2, ⟨⟨_, _, e2, hc2, hm2, hs2⟩, hi2⟩, hb2⟩ := open_top (opens_ints Try.underlying25 Try.underlying3 (by kernel_rfl) (by kernel_rfl)) h2
  have hB2 := hb2 _ (reach_of hsz (j := 2) rfl rfl)
  simp [Value.cells] at e2
  obtain ⟨rfl, rfl, rfl⟩ := e2
  obtain ⟨x3, rfl⟩ := okWide_int Try.underlying3 (hval 3 3 v3 rfl rfl)
  obtain ⟨y3, ⟨e3, wf3⟩, _⟩ := open_top (opens_int .i64 Try.underlying3) h3
  have hx3 : IntOk x3 := by
    simp [Value.cells] at e3
    rw [e3]
    exact intOk_of wf3
  obtain ⟨x4, rfl⟩ := okWide_int Try.underlying3 (hval 4 3 v4 rfl rfl)
  obtain ⟨y4, ⟨e4, wf4⟩, _⟩ := open_top (opens_int .i64 Try.underlying3) h4
  have hx4 : IntOk x4 := by
    simp [Value.cells] at e4
    rw [e4]
    exact intOk_of wf4
  refine (commits_any l0 A0 l0.l.length c0 A1 A2 l1.length c1 l2.length c2 l1 l2 x3 x4 W rfl hB0.1 hs0 hB0.2 rfl hB1 hs1 rfl hc2 hB2 hs2).mono fun e W' h => ?_
  exact post_true laidOut (by kernel_rfl) Try.underlying4 (by kernel_rfl) rfl hW' (fun hg => by subst hg; rfl) h

theorem progressCommits_holds : Rows.ProgressCommitsSaid :=
  OpenClaim.holds_of_wide 3 Try.f3 rfl rfl rfl rfl rfl rfl rfl ⟨rfl, rfl, rfl, rfl, rfl⟩ rfl rfl rfl rfl rfl (by kernel_rfl) Try.func3 (by kernel_rfl)
    (of_decide_eq_true (by kernel_rfl)) (by unfold Func.isWrapper; first | (rw [if_pos (by decide +kernel)]; kernel_rfl) | (rw [if_neg (by decide +kernel)]; exact ⟨rfl, rfl⟩))
    (fun os started H enc _ => progressCommits_lifted os started H enc)
#print axioms progressCommits_holds
end Go.Proofs.Ytlcnpfiiijehmaa
