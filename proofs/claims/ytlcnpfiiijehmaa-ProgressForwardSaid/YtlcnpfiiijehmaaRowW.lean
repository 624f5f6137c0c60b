/-
  For the rows of layer 13: words, opened.
-/
import Derived.Test.YtlcnpfiiijehmaaForward
import Derived.Test.YtlcnpfiiijehmaaRowK
set_option linter.unusedVariables false
set_option linter.unusedSimpArgs false
namespace Go.Proofs.Ytlcnpfiiijehmaa
open Go.ChangeShapes Go.WideShapes Go.ChangeAt Go.RowKit

section
variable {H : Type} {enc : TypeId × Value → H} {W : World} {sp : Nat → Bool}
theorem opens_word : Opens Try.prog enc W sp 42 (wordSee W) (fun _ _ => True) := by
  have c1 : Try.prog.cellsOf 3 = 1 := by kernel_rfl
  have c2 : Try.prog.cellsOf 4 = 1 := by kernel_rfl
  have c4 : Try.prog.cellsOf 42 = 2 := by kernel_rfl
  refine opens_mono (opens_struct2 Try.underlying42 (opens_bool Try.underlying4) (opens_int .i64 Try.underlying3)) (fun o cs h => ?_) (fun m l h => trivial)
  obtain ⟨hl, h0, h1, h2⟩ := h
  simp only [c1, c2, c4, List.drop_zero] at hl h0 h1 h2
  match cs, hl with
  | [x0, x1], _ =>
    simp at h0 h1 h2
    exact ⟨by rw [h0, h1], intOk_of h2⟩
theorem opens_words : Opens Try.prog enc W sp 36 (SliceR W (wordSee W) 2) (fun m (ls : List (Bool × Int)) => ls.length * 16 ≤ m) :=
  opens_mono (opens_slice 2 16 Try.underlying36 (by kernel_rfl) (by decide) (by kernel_rfl) (fun y cs h => by rw [h.1]; rfl) opens_word) (fun _ _ h => h) (fun m ys h => h.1)
theorem seenW_of {A : Option Addr} {n c : Nat} {os : List (Bool × Int)} (h : SliceR W (wordSee W) 2 os (Value.slice A n c).cells.toList) : (n = os.length ∧ os.length ≤ c) ∧ SeenW W A os := by
  obtain ⟨A', c', cells, e, h1, h2, h3, h4⟩ := h
  simp [Value.cells] at e
  obtain ⟨rfl, rfl, rfl⟩ := e
  exact ⟨⟨rfl, h1⟩, cells, h3, h4⟩
end
end Go.Proofs.Ytlcnpfiiijehmaa
