/-
  slices.Sort at a row of whole numbers that the call owns.
-/
import Derived.Test.YtoongmoajnedlaaGreatShelf
import Derived.Test.YtoongmoajnedlaaGreatRowK
import Derived.Test.YtoongmoajnedlaaGreatOut
set_option linter.unusedVariables false
set_option linter.unusedSimpArgs false
namespace Go.Proofs.YtoongmoajnedlaaGreat
open Go.RowKit

/-- The numbers, sorted. -/
def sortL (is : List Int) : List Int := is.mergeSort fun x y => decide (x ≤ y)
theorem sortL_length (is : List Int) : (sortL is).length = is.length := by simp [sortL]
def RetSort (w : World) (base : Nat) (v : Value) (is : List Int) (e : Ending) (w' : World) : Prop :=
  e = .returned (.tuple #[]) ∧ w'.ownsRow base 3 1 v is.length ((sortL is).map i64v) ∧ Outside (fun b => v.ownBlock = some b) w w'
theorem sort_own {base : Nat} (A : Option Addr) (is : List Int) (c : Nat) (w : World) (h : w.ownsRow base 3 1 (.slice A is.length c) is.length (is.map i64v)) (hl : is.length ≤ 140737488355328) :
    Calls Tryz.prog 167 #[.slice A is.length c] w (RetSort w base (.slice A is.length c) is) := by
  rcases Nat.eq_zero_or_pos is.length with h0 | hpos
  · obtain rfl := List.eq_nil_of_length_eq_zero h0
    refine (Tryz.slices_Sort_int_none A c w).mono ?_
    rintro e w' ⟨rfl, rfl⟩
    exact ⟨rfl, by simpa [sortL] using h, Outside.refl _ _⟩
  · obtain ⟨hcl, hh⟩ := id h
    rcases hh with ⟨hv, h0⟩ | ⟨g, cap, cur, hv, hb, hg, hn, hm, hs, ht⟩
    · omega
    cases hv
    have hgl := (Array.getElem?_eq_some_iff.1 hg).1
    have hsee := (sees_own' h).2.2.2
    have hH : Go.Sort.Holds (Value.int .i64) w g 0 is.toArray := by
      intro j hj
      simp at hj
      obtain ⟨ad, e, hc⟩ := hsee j (i64v is[j]) (by simp [hj])
      cases e
      rw [add_base] at hc
      refine ⟨?_, ?_⟩
      · rw [Nat.zero_add, hc]
        simp [i64v, hj]
      · rw [Nat.zero_add]
        exact own_fz' h j
    refine (Tryz.slices_Sort_int g 0 c is w hH hgl (by omega)).mono ?_
    rintro e w' ⟨rfl, n, os, rfl⟩
    have hblk : ∀ k, k < w.heap.size → (Go.Sort.grow (Go.Sort.putRow (Value.int .i64) (Go.Sort.ahead w n) g 0 (is.mergeSort fun x y => decide (x ≤ y)).toArray) os).heap[k]? = if g = k then some (.cells (Go.Sort.putCells (Value.int .i64) 0 (is.mergeSort fun x y => decide (x ≤ y)).toArray cur) 3 (0, 0)) else w.heap[k]? := by
      intro k hk
      rw [Go.Sort.heap_grow_old _ _ (by simpa using hk)]
      unfold Go.Sort.putRow Go.Sort.mapBlock
      simp only [Go.Sort.heap_ahead, Array.getElem?_modify]
      split
      · rename_i e
        subst e
        rw [hg]
        rfl
      · rfl
    refine ⟨rfl, ⟨by simp [sortL_length], .inr ⟨g, c, _, rfl, hb, (hblk g hgl).trans (if_pos rfl), hn, hm, by simpa [Go.Sort.putCells] using hs, ?_⟩⟩, rfl, rfl, rfl, by simp, fun b hb' hne => (hblk b hb').trans (if_neg (fun e => hne (by rw [← e]; rfl)))⟩
    have hs' : cur.size = c := by simpa using hs
    refine List.ext_getElem? fun i => ?_
    rw [List.getElem?_take]
    by_cases hi : i < is.length
    · rw [if_pos (by simpa using hi)]
      have hic : i < cur.size := by omega
      have hi2 : i < (is.mergeSort fun x y => decide (x ≤ y)).length := by simpa using hi
      simp [Go.Sort.putCells, sortL, i64v, hi, hic, hi2]
    · rw [if_neg (by simpa using hi), List.getElem?_eq_none (by simp [sortL_length]; omega)]
end Go.Proofs.YtoongmoajnedlaaGreat
