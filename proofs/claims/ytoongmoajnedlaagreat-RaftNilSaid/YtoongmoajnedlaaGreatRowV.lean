/-
  For the rows of layer 13: views, opened.
-/
import Derived.Test.YtoongmoajnedlaaGreatEOwn2
import Derived.Test.YtoongmoajnedlaaGreatRowK
set_option linter.unusedVariables false
set_option linter.unusedSimpArgs false
namespace Go.Proofs.YtoongmoajnedlaaGreat
open Go.ChangeShapes Go.WideShapes Go.ChangeAt Go.RowKit

theorem trodAll_five {H : Type} {enc : TypeId × Value → H} {P : Program} {w : World} {base : Nat} {spare : Nat → Bool} {held : Bool} {t0 t1 t2 t3 t4 : TypeId} {args : Array Value} {ds : List (DataW H)} {ps : List MemPlace} (h : DataW.TrodAll enc P w base spare held [t0, t1, t2, t3, t4] args.toList ds ps) :
    ∃ v0 v1 v2 v3 v4 d0 d1 d2 d3 d4 p0 p1 p2 p3 p4, args = #[v0, v1, v2, v3, v4] ∧ ds = [d0, d1, d2, d3, d4] ∧ ps = p0 ++ p1 ++ p2 ++ p3 ++ p4 ∧ DataW.Trod enc P w base spare held t0 v0 d0 p0 ∧ DataW.Trod enc P w base spare held t1 v1 d1 p1 ∧ DataW.Trod enc P w base spare held t2 v2 d2 p2 ∧ DataW.Trod enc P w base spare held t3 v3 d3 p3 ∧ DataW.Trod enc P w base spare held t4 v4 d4 p4 := by
  obtain ⟨v0, r0, d0, e0, p0, q0, hargs, rfl, rfl, h0, k0⟩ := trodAll_cons h
  obtain ⟨v1, r1, d1, e1, p1, q1, rfl, rfl, rfl, h1, k1⟩ := trodAll_cons k0
  obtain ⟨v2, r2, d2, e2, p2, q2, rfl, rfl, rfl, h2, k2⟩ := trodAll_cons k1
  obtain ⟨v3, r3, d3, e3, p3, q3, rfl, rfl, rfl, h3, k3⟩ := trodAll_cons k2
  obtain ⟨v4, r4, d4, e4, p4, q4, rfl, rfl, rfl, h4, k4⟩ := trodAll_cons k3
  obtain ⟨rfl, rfl, rfl⟩ := trodAll_nil k4
  exact ⟨v0, v1, v2, v3, v4, d0, d1, d2, d3, d4, p0, p1, p2, p3, p4, by cases args; simp_all, rfl, by simp, h0, h1, h2, h3, h4⟩
section
variable {H : Type} {enc : TypeId × Value → H} {W : World} {sp : Nat → Bool}
theorem opens_entry : Opens Tryz.prog enc W sp 110 (EntR W) (fun m (x : Ent) => x.data.length ≤ m) := by
  have c1 : Tryz.prog.cellsOf 3 = 1 := by kernel_rfl
  have c3 : Tryz.prog.cellsOf 29 = 1 := by kernel_rfl
  have c4 : Tryz.prog.cellsOf 110 = 4 := by kernel_rfl
  refine opens_map (fun (o : Int × Int × Int × List UInt8) => (⟨o.1, o.2.1, o.2.2.1, o.2.2.2⟩ : Ent)) (opens_struct4 Tryz.underlying110 (opens_int .i64 Tryz.underlying3) (opens_int .i64 Tryz.underlying3) (opens_int .i64 Tryz.underlying3) (opens_bytes Tryz.underlying29 Tryz.underlying5 (by kernel_rfl) (by kernel_rfl))) (fun o cs h => ?_) (fun m l h => h.2.2.2)
  obtain ⟨hl, h0, h1, h2, A, c, h3, h4, _, h5⟩ := h
  simp only [c1, c3, c4, List.drop_zero] at hl h0 h1 h2 h3
  match cs, hl with
  | [x0, x1, x2, x3], _ =>
    simp at h0 h1 h2 h3
    exact ⟨A, c, by rw [h0.1, h1.1, h2.1, h3]; rfl, h4, h5⟩
theorem opens_entries : Opens Tryz.prog enc W sp 28 (fun (es : List Ent) cs => ∃ A c, cs = [.slice A es.length c] ∧ es.length ≤ c ∧ SeenE W A es) (fun m (es : List Ent) => es.length * 48 ≤ m ∧ ∀ x ∈ es, x.data.length ≤ m) :=
  opens_mono (opens_slice 4 48 Tryz.underlying28 (by kernel_rfl) (by decide) (by kernel_rfl) (fun y cs ⟨A, c, h, _⟩ => by rw [h]; rfl) opens_entry) (fun es cs ⟨A, c, cells, h1, h2, _, h4, h5⟩ => ⟨A, c, h1, h2, cells, h4, h5⟩) (fun m ys h => h)
theorem opens_view : Opens Tryz.prog enc W sp 66 (fun (v : Vw) cs => ∃ A c, cs = [.int .i64 v.base, .int .i64 v.term, .slice A v.l.length c] ∧ v.l.length ≤ c ∧ SeenE W A v.l) (fun m (v : Vw) => v.l.length * 48 ≤ m ∧ ∀ x ∈ v.l, x.data.length ≤ m) := by
  have c1 : Tryz.prog.cellsOf 3 = 1 := by kernel_rfl
  have c3 : Tryz.prog.cellsOf 28 = 1 := by kernel_rfl
  have c4 : Tryz.prog.cellsOf 66 = 3 := by kernel_rfl
  refine opens_map (fun (o : Int × Int × List Ent) => (⟨o.1, o.2.1, o.2.2⟩ : Vw)) (opens_struct3 Tryz.underlying66 (opens_int .i64 Tryz.underlying3) (opens_int .i64 Tryz.underlying3) opens_entries) (fun o cs h => ?_) (fun m l h => h.2.2)
  obtain ⟨hl, h0, h1, A, c, h3, h4, h5⟩ := h
  simp only [c1, c3, c4, List.drop_zero] at hl h0 h1 h3
  match cs, hl with
  | [x0, x1, x2], _ =>
    simp at h0 h1 h3
    exact ⟨A, c, by rw [h0.1, h1.1, h3], h4, h5⟩
end
end Go.Proofs.YtoongmoajnedlaaGreat
