/-
  Plain: the reference's Order inserts each call at its place; what comes is the sorted row without the calls that are struck out.
-/
import Derived.Test.YtbnbeailbhnbdaaOrdE
set_option linter.unusedVariables false
set_option linter.unusedSimpArgs false
namespace Go.Proofs.Ytbnbeailbhnbdaa
open Go.RowKit

/-- The row after i calls. -/
def OrdR (cs : List CV) (i : Nat) (L : List Int) : Prop := Srt (ltO cs) L ∧ ∀ x, x ∈ L ↔ (0 ≤ x ∧ x < (i : Int)) ∧ delB (atC cs x) = false
theorem ltO_lo (cs : List CV) : LO (ltO cs) := ltK_lo _ _ _
theorem ordR_zero (cs : List CV) : OrdR cs 0 [] := ⟨List.Pairwise.nil, fun x => by simp; omega⟩
theorem ordR_skip {cs : List CV} {i : Nat} {L : List Int} (h : OrdR cs i L) (hd : delB (atC cs (i : Int)) = true) : OrdR cs (i + 1) L := by
  refine ⟨h.1, fun x => ?_⟩
  rw [h.2 x]
  constructor
  · rintro ⟨⟨h1, h2⟩, h3⟩
    exact ⟨⟨h1, by omega⟩, h3⟩
  · rintro ⟨⟨h1, h2⟩, h3⟩
    have hne : x ≠ (i : Int) := fun e => by rw [e, hd] at h3; cases h3
    exact ⟨⟨h1, by omega⟩, h3⟩
/-- Where i goes: all from place k on stand behind it. -/
def CutIn (cs : List CV) (i : Nat) (L : List Int) (k : Nat) : Prop := ∀ j, k ≤ j → j < L.length → ltO cs (i : Int) (L.getD j 0) = true
theorem cutIn_end (cs : List CV) (i : Nat) (L : List Int) : CutIn cs i L L.length := fun j h1 h2 => by omega
theorem cutIn_step {cs : List CV} {i : Nat} {L : List Int} {k : Nat} (h : CutIn cs i L (k + 1)) (hk : ltO cs (i : Int) (L.getD k 0) = true) : CutIn cs i L k := fun j h1 h2 => by
  rcases Nat.lt_or_ge k j with h3 | h3
  · exact h j h3 h2
  · obtain rfl : j = k := by omega
    exact hk
theorem ordR_put {cs : List CV} {i k : Nat} {L : List Int} (h : OrdR cs i L) (hd : delB (atC cs (i : Int)) = false) (hk : k ≤ L.length) (hc : CutIn cs i L k) (hl : k = 0 ∨ ltO cs (i : Int) (L.getD (k - 1) 0) = false) : OrdR cs (i + 1) (L.take k ++ [(i : Int)] ++ L.drop k) := by
  have ho := ltO_lo cs
  have hni : ∀ x ∈ L, x ≠ (i : Int) := fun x hx e => by
    have := ((h.2 x).1 hx).1.2
    omega
  have hlow : ∀ x ∈ L.take k, ltO cs x (i : Int) = true := by
    intro x hx
    obtain ⟨u, hu, rfl⟩ := List.getElem_of_mem hx
    rw [List.length_take] at hu
    rw [List.getElem_take]
    have hl' := hl.resolve_left (by omega)
    rw [getD_of (show k - 1 < L.length by omega)] at hl'
    have h1 : ltO cs L[k - 1] (i : Int) = true := ho.of_not (fun e => hni _ (List.getElem_mem _) e.symm) hl'
    rcases Nat.lt_or_ge u (k - 1) with h2 | h2
    · exact ho.tr _ _ _ (List.pairwise_iff_getElem.1 h.1 u (k - 1) (by omega) (by omega) h2) h1
    · have h3 : u = k - 1 := by omega
      subst h3
      exact h1
  have hup : ∀ y ∈ L.drop k, ltO cs (i : Int) y = true := by
    intro y hy
    obtain ⟨u, hu, rfl⟩ := List.getElem_of_mem hy
    rw [List.length_drop] at hu
    rw [List.getElem_drop]
    have := hc (k + u) (by omega) (by omega)
    rwa [getD_of (show k + u < L.length by omega)] at this
  have hs : Srt (ltO cs) (L.take k ++ L.drop k) := by rw [List.take_append_drop]; exact h.1
  obtain ⟨s1, s2, s3⟩ := List.pairwise_append.1 hs
  refine ⟨?_, fun x => ?_⟩
  · rw [List.append_assoc]
    refine List.pairwise_append.2 ⟨s1, ?_, ?_⟩
    · rw [List.singleton_append]
      exact List.pairwise_cons.2 ⟨hup, s2⟩
    · intro x hx y hy
      rw [List.singleton_append] at hy
      rcases List.mem_cons.1 hy with rfl | hy
      · exact hlow x hx
      · exact s3 x hx y hy
  · have hm : x ∈ L.take k ++ [(i : Int)] ++ L.drop k ↔ x = (i : Int) ∨ x ∈ L := by
      rw [List.mem_append, List.mem_append, List.mem_singleton]
      have : x ∈ L ↔ x ∈ L.take k ∨ x ∈ L.drop k := by rw [← List.mem_append, List.take_append_drop]
      rw [this]
      constructor
      · rintro ((h1 | h1) | h1)
        · exact .inr (.inl h1)
        · exact .inl h1
        · exact .inr (.inr h1)
      · rintro (h1 | h1 | h1)
        · exact .inl (.inr h1)
        · exact .inl (.inl h1)
        · exact .inr h1
    rw [hm, h.2 x]
    constructor
    · rintro (rfl | ⟨⟨h1, h2⟩, h3⟩)
      · exact ⟨⟨by omega, by omega⟩, hd⟩
      · exact ⟨⟨h1, by omega⟩, h3⟩
    · rintro ⟨⟨h1, h2⟩, h3⟩
      by_cases e : x = (i : Int)
      · exact .inl e
      · exact .inr ⟨⟨h1, by omega⟩, h3⟩
/-- The two Orders are one. -/
theorem ordR_ordL {cs : List CV} {n : Nat} {L : List Int} (h : OrdR cs n L) : L = ordL cs n := by
  refine srt_ext (ltO_lo cs) h.1 ((srtI_srt (ltO_lo cs) 0 n).filter _) fun x => ?_
  rw [h.2 x]
  unfold ordL keepO
  rw [List.mem_filter, mem_srtI]
  simp
theorem nodup_lenO : ∀ (n : Nat) (l : List Int), l.Nodup → (∀ x ∈ l, 0 ≤ x ∧ x < (n : Int)) → l.length ≤ n
  | 0, l, _, h => by
    cases l with
    | nil => exact Nat.le_refl _
    | cons x r => have := h x List.mem_cons_self; omega
  | n + 1, l, hd, h => by
    by_cases hm : (n : Int) ∈ l
    · have h1 := nodup_lenO n (l.erase (n : Int)) (hd.erase _) (fun x hx => by
        have h2 := (hd.mem_erase_iff).1 hx
        have h3 := h x h2.2
        have h4 := h2.1
        omega)
      rw [List.length_erase_of_mem hm] at h1
      omega
    · have h1 := nodup_lenO n l hd (fun x hx => by
        have h3 := h x hx
        have h4 : x ≠ (n : Int) := fun e => hm (e ▸ hx)
        omega)
      omega
theorem ordR_len {cs : List CV} {i : Nat} {L : List Int} (h : OrdR cs i L) : L.length ≤ i :=
  nodup_lenO i L (srt_ne (ltO_lo cs) h.1) (fun x hx => ((h.2 x).1 hx).1)
/-! ### the comparison, case by case -/
section
variable {cs : List CV} {i k : Int}
theorem late_eq (h : (atC cs i).kind = 2 ↔ (atC cs k).kind = 2) : lateI (atC cs i) = lateI (atC cs k) := by
  unfold lateI
  by_cases h1 : (atC cs i).kind = 2
  · rw [if_pos h1, if_pos (h.1 h1)]
  · rw [if_neg h1, if_neg (fun h2 => h1 (h.2 h2))]
theorem ltO_place (h : (atC cs i).place ≠ (atC cs k).place) : ltO cs i k = decide ((atC cs i).place < (atC cs k).place) := by
  unfold ltO ltK
  refine decide_eq_decide.2 ?_
  dsimp only
  omega
theorem ltO_late (h : (atC cs i).place = (atC cs k).place) (h1 : (atC cs i).kind = 2) (h2 : ¬ (atC cs k).kind = 2) : ltO cs i k = false := by
  have e1 : lateI (atC cs i) = 1 := by unfold lateI; rw [if_pos h1]
  have e2 : lateI (atC cs k) = 0 := by unfold lateI; rw [if_neg h2]
  unfold ltO ltK
  refine decide_eq_false ?_
  dsimp only
  omega
theorem ltO_early (h : (atC cs i).place = (atC cs k).place) (h1 : ¬ (atC cs i).kind = 2) (h2 : (atC cs k).kind = 2) : ltO cs i k = true := by
  have e1 : lateI (atC cs i) = 0 := by unfold lateI; rw [if_neg h1]
  have e2 : lateI (atC cs k) = 1 := by unfold lateI; rw [if_pos h2]
  unfold ltO ltK
  refine decide_eq_true ?_
  dsimp only
  omega
theorem ltO_beg (h : (atC cs i).place = (atC cs k).place) (hk : (atC cs i).kind = 2 ↔ (atC cs k).kind = 2) (hb : (atC cs i).beg ≠ (atC cs k).beg) : ltO cs i k = decide ((atC cs i).beg < (atC cs k).beg) := by
  have e1 := late_eq hk
  unfold ltO ltK
  refine decide_eq_decide.2 ?_
  dsimp only
  omega
theorem ltO_idx (h : (atC cs i).place = (atC cs k).place) (hk : (atC cs i).kind = 2 ↔ (atC cs k).kind = 2) (hb : (atC cs i).beg = (atC cs k).beg) : ltO cs i k = decide (i < k) := by
  have e1 := late_eq hk
  unfold ltO ltK
  refine decide_eq_decide.2 ?_
  dsimp only
  omega
end
end Go.Proofs.Ytbnbeailbhnbdaa
