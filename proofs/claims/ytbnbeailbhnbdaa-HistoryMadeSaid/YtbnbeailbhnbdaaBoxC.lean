/-
  A call in a box.
-/
import Derived.Test.YtbnbeailbhnbdaaOwnA
set_option linter.unusedVariables false
set_option linter.unusedSimpArgs false
namespace Go.Proofs.Ytbnbeailbhnbdaa
open Go.RowKit

theorem infoCallR : (Try.prog.info? 50).map (fun i => (i.zero, i.size, i.bytes)) = some (some (.agg zeros12), 12, 128) := by kernel_rfl
/-- A call in a box. -/
def BoxC (W : World) (b : Nat) (c : CV) : Prop := W.heap[b]? = some (.cells c.cells 50 (0, 0))
section
variable {W W' : World} {b : Nat} {c : CV}
theorem BoxC.cell (h : BoxC W b c) (j : Nat) (v : Value) (hj : c.cells.toList[j]? = some v) : W.cell? ⟨b, j, none⟩ = some v := by
  rw [cell_of_row W b j _ _ _ h]
  simpa using hj
theorem BoxC.frozen (h : BoxC W b c) (j : Nat) : W.frozen? ⟨b, j, none⟩ = false := by
  unfold BoxC at h
  simp [World.frozen?, h]
theorem BoxC.lt (h : BoxC W b c) : b < W.heap.size := (Array.getElem?_eq_some_iff.1 h).1
theorem BoxC.set0 (h : BoxC W b c) (v : Int) : BoxC (W.setCell ⟨b, 0, none⟩ (.int .i64 v)) b { c with client := v } := by
  unfold BoxC at *
  simp [World.setCell, Array.getElem?_modify, h, CV.cells]
theorem BoxC.set5 (h : BoxC W b c) (v : Bool) : BoxC (W.setCell ⟨b, 5, none⟩ (.bool v)) b { c with ans := v } := by
  unfold BoxC at *
  simp [World.setCell, Array.getElem?_modify, h, CV.cells]
theorem BoxC.below (h : BoxC W b c) (hb : Below W.heap.size W W') : BoxC W' b c := (hb.block b h.lt).trans h
end
theorem sees_grown {W W' : World} {A : Option Addr} {vs : List Value} {row : Option Nat} (h : Sees W A vs) (hg : W.grownBy W' row) (hne : ∀ ad, A = some ad → some ad.block ≠ row) : Sees W' A vs := fun j v hj => by
  obtain ⟨ad, e, hc⟩ := h j v hj
  exact ⟨ad, e, hg.cell hc (by rw [add_blk]; exact hne ad e)⟩
abbrev TC : TypeId := 50
section
variable {W : World} {b : Nat} {c : CV}
theorem BoxC.set3 (h : BoxC W b c) (v : Int) : BoxC (W.setCell ⟨b, 3, none⟩ (.int .i64 v)) b { c with kind := v } := by
  unfold BoxC at *
  simp [World.setCell, Array.getElem?_modify, h, CV.cells]
theorem BoxC.set6 (h : BoxC W b c) (v : Int) : BoxC (W.setCell ⟨b, 6, none⟩ (.int .i64 v)) b { c with frm := v } := by
  unfold BoxC at *
  simp [World.setCell, Array.getElem?_modify, h, CV.cells]
theorem BoxC.set7 (h : BoxC W b c) (v : Int) : BoxC (W.setCell ⟨b, 7, none⟩ (.int .i64 v)) b { c with most := v } := by
  unfold BoxC at *
  simp [World.setCell, Array.getElem?_modify, h, CV.cells]
theorem BoxC.set8 (h : BoxC W b c) (v : Int) : BoxC (W.setCell ⟨b, 8, none⟩ (.int .i64 v)) b { c with number := v } := by
  unfold BoxC at *
  simp [World.setCell, Array.getElem?_modify, h, CV.cells]
theorem BoxC.set9 (h : BoxC W b c) (v : Int) : BoxC (W.setCell ⟨b, 9, none⟩ (.int .i64 v)) b { c with start := v } := by
  unfold BoxC at *
  simp [World.setCell, Array.getElem?_modify, h, CV.cells]
theorem BoxC.set11 (h : BoxC W b c) (v : Value) : BoxC (W.setCell ⟨b, 11, none⟩ v) b { c with rv := v } := by
  unfold BoxC at *
  simp [World.setCell, Array.getElem?_modify, h, CV.cells]
end
end Go.Proofs.Ytbnbeailbhnbdaa
