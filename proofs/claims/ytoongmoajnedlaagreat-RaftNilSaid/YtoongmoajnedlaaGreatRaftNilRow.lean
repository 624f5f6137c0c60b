/-
  The law RaftNil of layer 15 holds at every input: it answers true and leaves its arguments as they were. No condition.
-/
import Derived.Test.YtoongmoajnedlaaGreatNil1
import Derived.Test.YtoongmoajnedlaaGreatRowV
import Derived.Test.YtoongmoajnedlaaGreatRowK
set_option linter.unusedVariables false
set_option linter.unusedSimpArgs false
namespace Go.Proofs.YtoongmoajnedlaaGreat
open Go.ChangeShapes Go.WideShapes Go.ChangeAt Go.RowKit

theorem opens_opts {H : Type} {enc : TypeId × Value → H} {W : World} {sp : Nat → Bool} : Opens Tryz.prog enc W sp 65 (fun (v : Int × Int × Int) cs => cs = [.int .i64 v.1, .int .i64 v.2.1, .int .i64 v.2.2]) (fun _ _ => True) := by
  have c1 : Tryz.prog.cellsOf 3 = 1 := by kernel_rfl
  have c4 : Tryz.prog.cellsOf 65 = 3 := by kernel_rfl
  refine opens_map (fun (o : Int × Int × Int) => o) (opens_struct3 Tryz.underlying65 (opens_int .i64 Tryz.underlying3) (opens_int .i64 Tryz.underlying3) (opens_int .i64 Tryz.underlying3)) (fun o cs h => ?_) (fun m l h => trivial)
  obtain ⟨hl, h0, h1, h2⟩ := h
  simp only [c1, c4, List.drop_zero] at hl h0 h1 h2
  match cs, hl with
  | [x0, x1, x2], _ =>
    simp at h0 h1 h2
    show _ = _
    rw [h0.1, h1.1, h2.1]
set_option maxRecDepth 100000 in
theorem raftNil_lifted (os : Os) (started : os.Started) (H : Type) (enc : TypeId × Value → H) :
    ReturnsInHanded {} Tryz.checked os 5 .any (Rows.raftNilSpec.pre6 enc Tryz.prog Tryz.f5 Rows.raftNilRow.domain false) (Rows.raftNilSpec.post enc Tryz.prog Tryz.f5 false true false false) := by
  refine returnsInHanded_of_change_sized (C := Tryz.checked) own started (by kernel_rfl) Tryz.func5
    (ChangeSpec.witness6 (enc := enc) (C := Tryz.checked) false ⟨#[], #[.agg #[.int .i64 0, .int .i64 0, .int .i64 0], .agg #[.int .i64 0, .int .i64 0, .slice none 0 0], .int .i64 0], []⟩ 8 (by kernel_rfl) (by kernel_rfl) (by kernel_rfl) (by kernel_rfl)) ?_
  intro W base args ds gs before hval0 hW hcnd hsz _
  have hval : ∀ (j : Nat) t v, Tryz.f5.params[j]? = some t → args[j]? = some v → Value.okWide Tryz.prog W .any base t v := hval0
  have hW' := hW
  obtain ⟨p, q, hA0, hV, hpq, hfz, hnd⟩ := hW
  have hA : DataW.TrodAll enc Tryz.prog W 0 (fun _ => true) true Tryz.f5.params.toList args.toList ds p := hA0
  rw [Tryz.params5] at hA hval
  obtain ⟨v0, v1, v2, d0, d1, d2, p0, p1, p2, rfl, rfl, _, h0, h1, h2⟩ := trodAll_three hA
  obtain ⟨cs0, rfl, hz0⟩ := okWide_struct Tryz.underlying65 (hval 0 65 v0 rfl rfl)
  obtain ⟨l0, e0, _⟩ := open_top opens_opts h0
  obtain rfl : cs0 = #[.int .i64 l0.1, .int .i64 l0.2.1, .int .i64 l0.2.2] := by
    have := congrArg List.toArray e0
    simpa [Value.cells] using this
  obtain ⟨cs1, rfl, hz1⟩ := okWide_struct Tryz.underlying66 (hval 1 66 v1 rfl rfl)
  obtain ⟨l1, ⟨A1, c1, e1, hc1, hs1⟩, hb1⟩ := open_top opens_view h1
  have hB1 := hb1 _ (reach_of hsz (j := 1) rfl rfl)
  obtain rfl : cs1 = #[.int .i64 l1.base, .int .i64 l1.term, .slice A1 l1.l.length c1] := by
    have := congrArg List.toArray e1
    simpa [Value.cells] using this
  obtain ⟨x2, rfl⟩ := okWide_int Tryz.underlying3 (hval 2 3 v2 rfl rfl)
  refine (raftNil_any l0.1 l0.2.1 l0.2.2 l1 A1 l1.l.length c1 x2 W rfl hB1.1 hs1 hB1.2).mono fun e W' h => ?_
  exact post_true laidOut (by kernel_rfl) Tryz.underlying4 (by kernel_rfl) rfl hW' (fun hg => by subst hg; rfl) h

theorem raftNil_holds : Rows.RaftNilSaid :=
  OpenClaim.holds_of_wide 5 Tryz.f5 rfl rfl rfl rfl rfl rfl rfl ⟨rfl, rfl, rfl, rfl, rfl⟩ rfl rfl rfl rfl rfl (by kernel_rfl) Tryz.func5 (by kernel_rfl)
    (of_decide_eq_true (by kernel_rfl)) (by unfold Func.isWrapper; first | (rw [if_pos (by decide +kernel)]; kernel_rfl) | (rw [if_neg (by decide +kernel)]; exact ⟨rfl, rfl⟩))
    (fun os started H enc _ => raftNil_lifted os started H enc)
#print axioms raftNil_holds
end Go.Proofs.YtoongmoajnedlaaGreat
