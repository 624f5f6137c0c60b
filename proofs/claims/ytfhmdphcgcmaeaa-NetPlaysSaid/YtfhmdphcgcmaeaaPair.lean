/-
  The two nets' walls say the same.
-/
import Derived.Test.YtfhmdphcgcmaeaaRNet1
import Derived.Test.YtfhmdphcgcmaeaaNetInv
set_option linter.unusedVariables false
set_option linter.unusedSimpArgs false
namespace Go.Proofs.Ytfhmdphcgcmaeaa
open Go.RowKit

theorem fold_get (i : Int) (hi : serverB i = true) : ∀ (ids : List Int) (b : List Bool), ids.all serverB = true → b.length = 16 → (ids.foldl (fun wl j => wl.set j.toNat true) b).getD i.toNat false = (b.getD i.toNat false || ids.any (fun j => j == i))
  | [], b, _, _ => by simp
  | j :: l, b, h, hb => by
    simp only [List.all_cons, Bool.and_eq_true] at h
    rw [List.foldl_cons, fold_get i hi l _ h.2 (by simpa using hb), List.any_cons]
    obtain ⟨n, rfl, hn⟩ := serverB_nat hi
    obtain ⟨m, rfl, hm⟩ := serverB_nat h.1
    by_cases e : m = n
    · subst e
      simp [List.getD_eq_getElem?_getD, List.getElem?_set, hb, hn]
    · have e' : (((m : Int)) == ((n : Int))) = false := beq_false_of_ne (fun h => e (by omega))
      rw [e']
      simp [List.getD_eq_getElem?_getD, List.getElem?_set, e]
theorem wallR_get {i : Int} (hi : serverB i = true) {ids : List Int} (h : ids.all serverB = true) : (wallL ids).getD i.toNat false = ids.any (fun j => j == i) := by
  unfold wallL
  rw [fold_get i hi ids open16 h rfl]
  have : open16.getD i.toNat false = false := by
    obtain ⟨n, rfl, hn⟩ := serverB_nat hi
    rw [Int.toNat_natCast]
    have : ∀ n, n < 16 → open16.getD n false = false := by decide
    exact this n hn
  rw [this, Bool.false_or]
theorem open_eq {ids : List Int} (h : ids.all serverB = true) (f t : Int) (n : Nat) : openR ids f t n = openB (wallL ids) f t n := by
  unfold openR openB right4
  cases hf : serverB f with
  | false => simp
  | true =>
    cases ht : serverB t with
    | false => simp
    | true => rw [wallR_get hf h, wallR_get ht h]
theorem openL_eq {ids : List Int} (h : ids.all serverB = true) (l : Lt) : openR ids l.1 l.2.1 l.2.2.length = openL (wallL ids) l := open_eq h _ _ _
end Go.Proofs.Ytfhmdphcgcmaeaa
