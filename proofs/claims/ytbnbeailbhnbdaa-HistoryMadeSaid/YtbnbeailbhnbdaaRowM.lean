/-
  For the rows: calls of models, opened.
-/
import Derived.Test.YtbnbeailbhnbdaaMods
import Derived.Test.YtbnbeailbhnbdaaRowK
set_option linter.unusedVariables false
set_option linter.unusedSimpArgs false
namespace Go.Proofs.Ytbnbeailbhnbdaa
open Go.ChangeShapes Go.WideShapes Go.ChangeAt Go.RowKit

section
variable {H : Type} {enc : TypeId × Value → H} {W : World} {sp : Nat → Bool}
def OpmR (W : World) (o : OpM) (cs : List Value) : Prop :=
  ∃ A c, cs = [.int .i64 o.1, .int .i64 o.2.1, .int .i64 o.2.2.1, .slice A o.2.2.2.length c] ∧ o.2.2.2.length ≤ c ∧ Sees W A (u8s o.2.2.2)
theorem opens_opm : Opens Try.prog enc W sp 32 (OpmR W) (fun m (o : OpM) => o.2.2.2.length ≤ m) := by
  have c1 : Try.prog.cellsOf 3 = 1 := by kernel_rfl
  have c3 : Try.prog.cellsOf 30 = 1 := by kernel_rfl
  have c4 : Try.prog.cellsOf 32 = 4 := by kernel_rfl
  refine opens_mono (opens_struct4 Try.underlying32 (opens_int .i64 Try.underlying3) (opens_int .i64 Try.underlying3) (opens_int .i64 Try.underlying3) (opens_bytes Try.underlying30 Try.underlying5 (by kernel_rfl) (by kernel_rfl))) (fun o cs h => ?_) (fun m l h => h.2.2.2)
  obtain ⟨hl, h0, h1, h2, A, c, h3, h4, _, h5⟩ := h
  simp only [c1, c3, c4, List.drop_zero] at hl h0 h1 h2 h3
  match cs, hl with
  | [x0, x1, x2, x3], _ =>
    simp at h0 h1 h2 h3
    exact ⟨A, c, by rw [h0.1, h1.1, h2.1, h3], h4, h5⟩
theorem opens_opms : Opens Try.prog enc W sp 22 (SliceR W (OpmR W) 4) (fun m (ls : List OpM) => ls.length * 48 ≤ m ∧ ∀ o ∈ ls, o.2.2.2.length ≤ m) :=
  opens_slice 4 48 Try.underlying22 (by kernel_rfl) (by decide) (by kernel_rfl) (fun y cs ⟨A, c, h, _⟩ => by rw [h]; rfl) opens_opm
theorem seenM_of {A : Option Addr} {n c : Nat} {os : List OpM} (h : SliceR W (OpmR W) 4 os (Value.slice A n c).cells.toList) (hb : ∀ o ∈ os, o.2.2.2.length ≤ 140737488351232) : (n = os.length ∧ os.length ≤ c) ∧ SeenM W A os := by
  obtain ⟨A', c', cells, e, h1, h2, h3, h4⟩ := h
  simp [Value.cells] at e
  obtain ⟨rfl, rfl, rfl⟩ := e
  refine ⟨⟨rfl, h1⟩, cells, h3, h4.imp fun j o cs ho hr => ?_⟩
  obtain ⟨A1, c1, e, h5, h6⟩ := hr
  exact ⟨A1, c1, e, h5, hb o (List.mem_of_getElem? ho), h6⟩
end
end Go.Proofs.Ytbnbeailbhnbdaa
