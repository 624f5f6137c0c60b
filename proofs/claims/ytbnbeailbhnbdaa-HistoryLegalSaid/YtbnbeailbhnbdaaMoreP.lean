/-
  Plain: a call more, that nobody answered.
-/
import Derived.Test.YtbnbeailbhnbdaaTimeP
import Derived.Test.YtbnbeailbhnbdaaRefR
set_option linter.unusedVariables false
set_option linter.unusedSimpArgs false
namespace Go.Proofs.Ytbnbeailbhnbdaa
open Go.RowKit

/-- Alike as far as Right looks. -/
def LikeC (c d : CV) : Prop := d.client = c.client ∧ d.beg = c.beg ∧ d.ans = c.ans ∧ (c.ans = true → d.fin = c.fin) ∧ aloneB d = aloneB c
theorem right_move {cs ds : List CV} (hl : ds.length = cs.length) (h : ∀ i : Nat, i < cs.length → LikeC (atC cs (i : Int)) (atC ds (i : Int))) (hr : rightC cs = true) : rightC ds = true := by
  rw [right_eq] at hr ⊢
  unfold rightQ at hr ⊢
  rw [Bool.and_eq_true, List.all_eq_true, decide_eq_true_eq] at hr ⊢
  rw [hl]
  refine ⟨hr.1, fun i hi => ?_⟩
  have hin := List.mem_range.1 hi
  have h1 := hr.2 i hi
  obtain ⟨a1, a2, a3, a4, a5⟩ := h i hin
  unfold oneQ at h1 ⊢
  rw [Bool.and_eq_true, List.all_eq_true] at h1 ⊢
  rw [hl]
  refine ⟨by rw [a5]; exact h1.1, fun k hk => ?_⟩
  have hkn := List.mem_range.1 hk
  have h2 := h1.2 k hk
  obtain ⟨b1, b2, b3, b4, b5⟩ := h k hkn
  rw [pairQ_iff] at h2 ⊢
  intro hne hc
  rw [a1, b1] at hc
  obtain ⟨h3, h4⟩ := h2 hne hc
  rw [b2, a2]
  refine ⟨h3, fun h5 => ?_⟩
  obtain ⟨h6, h7⟩ := h4 h5
  exact ⟨by rw [a3]; exact h6, by rw [a4 h6]; exact h7⟩
theorem SameF.like {x y : Full} (h : SameF x y) : LikeC x.1 y.1 := by
  rw [h.2]
  exact ⟨rfl, rfl, rfl, fun _ => rfl, rfl⟩
section
variable {xs ys : List Full} {os : List Int}
theorem run_move (hs : ∀ k : Nat, k < xs.length → SameF (atF xs (k : Int)) (atF ys (k : Int))) (ho : ordP xs.length os) : ∀ i, i ≤ os.length → runM ys os i = runM xs os i
  | 0, _ => rfl
  | i + 1, hi => by
    have ih := run_move hs ho i (by omega)
    obtain ⟨k, hk, hkn⟩ := ord_mem ho (i := i) (by omega)
    have h1 := hs k hkn
    simp only [runM]
    rw [ih, hk, h1.2, h1.1]
    rfl
theorem fit_move (hs : ∀ k : Nat, k < xs.length → SameF (atF xs (k : Int)) (atF ys (k : Int))) (ho : ordP xs.length os) {i : Nat} (hi : i < os.length) : fitAt ys os i = fitAt xs os i := by
  obtain ⟨k, hk, hkn⟩ := ord_mem ho (i := i) (by omega)
  have h1 := hs k hkn
  unfold fitAt
  rw [run_move hs ho i (by omega), hk, h1.2, h1.1]
  rfl
theorem Lawful.move (h : Lawful xs os) (hs : ∀ k : Nat, k < xs.length → SameF (atF xs (k : Int)) (atF ys (k : Int))) (hr : rightC (cvs ys) = true) (hl : xs.length ≤ ys.length) (ha : ∀ k : Nat, xs.length ≤ k → k < ys.length → (atF ys (k : Int)).1.ans = false) : Lawful ys os := by
  have hmem : ∀ o ∈ os, ∃ k : Nat, o = (k : Int) ∧ k < xs.length := by
    intro o ho
    obtain ⟨i, hi, rfl⟩ := List.getElem_of_mem ho
    obtain ⟨k, hk, hkn⟩ := ord_mem h.ord hi
    rw [getD_of hi] at hk
    exact ⟨k, hk, hkn⟩
  refine ⟨hr, ?_, ?_, ?_, fun j hj => by rw [fit_move hs h.ord hj]; exact h.fit j hj⟩
  · intro i hi
    obtain ⟨h1, h2, h3⟩ := ordOK_iff.1 (h.ord i hi)
    exact ordOK_iff.2 ⟨h1, by omega, h3⟩
  · intro k hk
    rw [cvs_length] at hk
    unfold ansOK
    rw [← atF_fst]
    rcases Nat.lt_or_ge k xs.length with h1 | h1
    · have h2 := h.ans k (by rw [cvs_length]; exact h1)
      unfold ansOK at h2
      rw [← atF_fst] at h2
      rw [(hs k h1).2]
      exact h2
    · rw [ha k h1 hk]
      rfl
  · intro i hi
    have h1 := h.late i hi
    obtain ⟨k, hk, hkn⟩ := ord_mem h.ord hi
    unfold lateOK at h1 ⊢
    rw [List.all_eq_true] at h1 ⊢
    intro o ho
    have h2 := h1 o ho
    obtain ⟨q, rfl, hq⟩ := hmem o (List.mem_of_mem_drop ho)
    rw [hk] at h2 ⊢
    rw [← atF_fst, ← atF_fst] at h2 ⊢
    rw [(hs q hq).2, (hs k hkn).2]
    exact h2
end
theorem SameF.symm {x y : Full} (h : SameF x y) : SameF y x := by
  obtain ⟨h1, h2⟩ := h
  refine ⟨h1.symm, ?_⟩
  rw [h2]
theorem SameF.trans {x y z : Full} (h : SameF x y) (k : SameF y z) : SameF x z := by
  obtain ⟨h1, h2⟩ := h
  obtain ⟨k1, k2⟩ := k
  refine ⟨k1.trans h1, ?_⟩
  rw [k2, h2]
end Go.Proofs.Ytbnbeailbhnbdaa
