/-
  For the rows of the net's laws: letters, opened.
-/
import Derived.Test.YtfhmdphcgcmaeaaNetO
import Derived.Test.YtfhmdphcgcmaeaaRowK
set_option linter.unusedVariables false
set_option linter.unusedSimpArgs false
namespace Go.Proofs.Ytfhmdphcgcmaeaa
open Go.ChangeShapes Go.WideShapes Go.ChangeAt Go.RowKit

section
variable {H : Type} {enc : TypeId × Value → H} {W : World} {sp : Nat → Bool}
/-- A letter that was handed in. -/
def LetterR (W : World) (l : Lt) (cs : List Value) : Prop := ∃ A c, cs = [.int .i64 l.1, .int .i64 l.2.1, .slice A l.2.2.length c] ∧ l.2.2.length ≤ c ∧ Sees W A (u8s l.2.2)
theorem opens_letter : Opens Try.prog enc W sp 35 (LetterR W) (fun m (l : Lt) => l.2.2.length ≤ m) := by
  have c1 : Try.prog.cellsOf 3 = 1 := by kernel_rfl
  have c2 : Try.prog.cellsOf 31 = 1 := by kernel_rfl
  have c3 : Try.prog.cellsOf 35 = 3 := by kernel_rfl
  refine opens_mono (opens_struct3 Try.underlying35 (opens_int .i64 Try.underlying3) (opens_int .i64 Try.underlying3) (opens_bytes Try.underlying31 Try.underlying5 (by kernel_rfl) (by kernel_rfl))) (fun l cs h => ?_) (fun m l h => h.2.2)
  obtain ⟨hl, h0, h1, A, c, h2, h3, _, h4⟩ := h
  simp only [c1, c2, c3, List.drop_zero] at hl h0 h1 h2
  match cs, hl with
  | [x, y, z], _ =>
    simp at h0 h1 h2
    exact ⟨A, c, by rw [h0.1, h1.1, h2], h3, h4⟩
theorem opens_letters : Opens Try.prog enc W sp 22 (SliceR W (LetterR W) 3) (fun m (ls : List Lt) => ls.length * 40 ≤ m ∧ ∀ l ∈ ls, l.2.2.length ≤ m) :=
  opens_slice 3 40 Try.underlying22 (by kernel_rfl) (by decide) (by kernel_rfl) (fun y cs ⟨A, c, h, _⟩ => by rw [h]; rfl) opens_letter
theorem seenL_of {A : Option Addr} {n c : Nat} {ls : List Lt} (h : SliceR W (LetterR W) 3 ls (Value.slice A n c).cells.toList) (hb : ∀ l ∈ ls, l.2.2.length ≤ 140737488351232) : (n = ls.length ∧ ls.length ≤ c) ∧ c ≤ maxLen ∧ SeenL W A ls := by
  obtain ⟨A', c', cells, e, h1, h2, h3, h4⟩ := h
  simp [Value.cells] at e
  obtain ⟨rfl, rfl, rfl⟩ := e
  refine ⟨⟨rfl, h1⟩, h2, cells, h3, h4.imp fun j l cs hl hr => ?_⟩
  obtain ⟨A1, c1, e, h5, h6⟩ := hr
  exact ⟨A1, c1, e, h5, hb l (List.mem_of_getElem? hl), h6⟩
/-- A call: kind, place, letter, servers. -/
abbrev OpT := Int × Int × Lt × List Int
def OpR (W : World) (o : OpT) (cs : List Value) : Prop :=
  ∃ A c B d, cs = [.int .i64 o.1, .int .i64 o.2.1, .int .i64 o.2.2.1.1, .int .i64 o.2.2.1.2.1, .slice A o.2.2.1.2.2.length c, .slice B o.2.2.2.length d] ∧ o.2.2.1.2.2.length ≤ c ∧ Sees W A (u8s o.2.2.1.2.2) ∧ o.2.2.2.length ≤ d ∧ Sees W B (o.2.2.2.map intV) ∧ IntOk o.2.1
theorem opens_op : Opens Try.prog enc W sp 45 (OpR W) (fun m (o : OpT) => o.2.2.1.2.2.length ≤ m ∧ o.2.2.2.length * 8 ≤ m) := by
  have c1 : Try.prog.cellsOf 3 = 1 := by kernel_rfl
  have c2 : Try.prog.cellsOf 35 = 3 := by kernel_rfl
  have c3 : Try.prog.cellsOf 43 = 1 := by kernel_rfl
  have c4 : Try.prog.cellsOf 45 = 6 := by kernel_rfl
  refine opens_mono (opens_struct4 Try.underlying45 (opens_int .i64 Try.underlying3) (opens_int .i64 Try.underlying3) opens_letter (opens_ints Try.underlying43 Try.underlying3 (by kernel_rfl) (by kernel_rfl))) (fun o cs h => ?_) (fun m l h => ⟨h.2.2.1, h.2.2.2⟩)
  obtain ⟨hl, h0, h1, ⟨A, c, h2, h3, h4⟩, ⟨B, d, h5, h6, _, h7⟩, _⟩ := h
  simp only [c1, c2, c3, c4, List.drop_zero] at hl h0 h1 h2 h5
  match cs, hl with
  | [x0, x1, x2, x3, x4, x5], _ =>
    simp at h0 h1 h2 h5
    exact ⟨A, c, B, d, by rw [h0.1, h1.1, h2.1, h2.2.1, h2.2.2, h5], h3, h4, h6, h7, intOk_of h1.2⟩
theorem opens_ops : Opens Try.prog enc W sp 41 (SliceR W (OpR W) 6) (fun m (ls : List OpT) => ls.length * 80 ≤ m ∧ ∀ o ∈ ls, o.2.2.1.2.2.length ≤ m ∧ o.2.2.2.length * 8 ≤ m) :=
  opens_slice 6 80 Try.underlying41 (by kernel_rfl) (by decide) (by kernel_rfl) (fun y cs ⟨A, c, B, d, h, _⟩ => by rw [h]; rfl) opens_op
end
end Go.Proofs.Ytfhmdphcgcmaeaa
