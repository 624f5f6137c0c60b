/-
  Plain: Legal and Order look at no address.
-/
import Derived.Test.YtbnbeailbhnbdaaMoreP
import Derived.Test.YtbnbeailbhnbdaaOrdP
set_option linter.unusedVariables false
set_option linter.unusedSimpArgs false
namespace Go.Proofs.Ytbnbeailbhnbdaa
open Go.RowKit

section
variable {xs ys : List Full} {os : List Int}
theorem same_all (hl : ys.length = xs.length) (hs : ∀ k : Nat, k < xs.length → SameF (atF xs (k : Int)) (atF ys (k : Int))) (o : Int) : SameF (atF xs o) (atF ys o) := by
  rcases Nat.lt_or_ge o.toNat xs.length with h | h
  · have := hs o.toNat h
    unfold atF at this ⊢
    rwa [Int.toNat_natCast] at this
  · unfold atF
    rw [List.getD_eq_getElem?_getD, List.getD_eq_getElem?_getD, List.getElem?_eq_none h, List.getElem?_eq_none (by omega)]
    exact ⟨rfl, rfl⟩
theorem same_c (h : ∀ o, SameF (atF xs o) (atF ys o)) (o : Int) : atC (cvs ys) o = { atC (cvs xs) o with dv := (atC (cvs ys) o).dv, rv := (atC (cvs ys) o).rv } := by
  rw [← atF_fst, ← atF_fst]
  exact (h o).2
theorem same_right (hl : ys.length = xs.length) (h : ∀ o, SameF (atF xs o) (atF ys o)) : rightC (cvs ys) = rightC (cvs xs) := by
  refine Bool.eq_iff_iff.2 ⟨fun h1 => ?_, fun h1 => ?_⟩
  · refine right_move (cs := cvs ys) (by rw [cvs_length, cvs_length]; exact hl.symm) (fun i _ => ?_) h1
    rw [← atF_fst, ← atF_fst]
    exact (h i).symm.like
  · refine right_move (cs := cvs xs) (by rw [cvs_length, cvs_length]; exact hl) (fun i _ => ?_) h1
    rw [← atF_fst, ← atF_fst]
    exact (h i).like
theorem same_ans (h : ∀ o, SameF (atF xs o) (atF ys o)) (k : Nat) : ansOK (cvs ys) os k = ansOK (cvs xs) os k := by
  unfold ansOK
  rw [same_c h]
theorem same_late (h : ∀ o, SameF (atF xs o) (atF ys o)) (i : Nat) : lateOK (cvs ys) os i = lateOK (cvs xs) os i := by
  unfold lateOK
  congr 1
  funext o
  rw [same_c h o, same_c h (os.getD i 0)]
theorem same_run (h : ∀ o, SameF (atF xs o) (atF ys o)) : ∀ i, runM ys os i = runM xs os i
  | 0 => rfl
  | i + 1 => by
    have ih := same_run h i
    have h1 := h (os.getD i 0)
    simp only [runM]
    rw [ih, h1.2, h1.1]
    rfl
theorem same_fit (h : ∀ o, SameF (atF xs o) (atF ys o)) (i : Nat) : fitAt ys os i = fitAt xs os i := by
  have h1 := h (os.getD i 0)
  unfold fitAt
  rw [same_run h i, h1.2, h1.1]
  rfl
theorem LegalIs.same (hl : ys.length = xs.length) (h : ∀ o, SameF (atF xs o) (atF ys o)) {a e : Int} (hL : LegalIs ys os a e) : LegalIs xs os a e := by
  have e1 := same_right hl h
  have e2 : ansP (cvs ys) os = ansP (cvs xs) os := by
    unfold ansP
    rw [cvs_length, cvs_length, hl]
    simp only [same_ans h]
  have e3 : lateP (cvs ys) os = lateP (cvs xs) os := by
    unfold lateP
    simp only [same_late h]
  unfold LegalIs at hL ⊢
  rw [e1, e2, e3, hl] at hL
  simp only [same_late h, same_fit h] at hL
  exact hL
theorem same_ordL (h : ∀ o, SameF (atF xs o) (atF ys o)) (n : Nat) : ordL (cvs ys) n = ordL (cvs xs) n := by
  have e1 : ltO (cvs ys) = ltO (cvs xs) := by
    funext x y
    have p : ∀ o, (atC (cvs ys) o).place = (atC (cvs xs) o).place := fun o => by rw [same_c h o]
    have b : ∀ o, (atC (cvs ys) o).beg = (atC (cvs xs) o).beg := fun o => by rw [same_c h o]
    have l : ∀ o, lateI (atC (cvs ys) o) = lateI (atC (cvs xs) o) := fun o => by rw [same_c h o]; rfl
    unfold ltO ltK
    refine decide_eq_decide.2 ?_
    dsimp only
    rw [p, p, b, b, l, l]
  have e2 : (fun x => !delB (atC (cvs ys) x)) = fun x => !delB (atC (cvs xs) x) := by
    funext x
    rw [same_c h x]
    rfl
  unfold ordL keepO
  rw [e1, e2]
theorem ordL_length (cs : List CV) (n : Nat) : (ordL cs n).length ≤ n := by
  unfold ordL keepO
  refine Nat.le_trans (List.length_filter_le _ _) ?_
  rw [srtI_length]
  omega
end
end Go.Proofs.Ytbnbeailbhnbdaa
