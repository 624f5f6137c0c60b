/-
  Plain: whether an order is that of one log.
-/
import Derived.Test.YtbnbeailbhnbdaaRefC1
import Derived.Test.YtbnbeailbhnbdaaLeg1
set_option linter.unusedVariables false
set_option linter.unusedSimpArgs false
namespace Go.Proofs.Ytbnbeailbhnbdaa
open Go.RowKit

/-- A call, its data, its records. -/
abbrev Full := CV × (List UInt8 × List (List UInt8))
def cvs (xs : List Full) : List CV := xs.map (·.1)
theorem cvs_length (xs : List Full) : (cvs xs).length = xs.length := by simp [cvs]
def full0 : Full := (czero, [], [])
def atF (xs : List Full) (i : Int) : Full := xs.getD i.toNat full0
def ordOK (n : Nat) (os : List Int) (i : Nat) : Bool := (decide (0 ≤ os.getD i 0) && decide (os.getD i 0 < (n : Int))) && !((os.take i).contains (os.getD i 0))
def ordP (n : Nat) (os : List Int) : Prop := ∀ i, i < os.length → ordOK n os i = true
def ansOK (cs : List CV) (os : List Int) (k : Nat) : Bool := !(atC cs (k : Int)).ans || os.contains (k : Int)
def ansP (cs : List CV) (os : List Int) : Prop := ∀ k, k < cs.length → ansOK cs os k = true
def lateOK (cs : List CV) (os : List Int) (i : Nat) : Bool := (os.drop (i + 1)).all fun o => !(atC cs o).ans || decide ((atC cs (os.getD i 0)).beg ≤ (atC cs o).fin)
def lateP (cs : List CV) (os : List Int) : Prop := ∀ i, i < os.length → lateOK cs os i = true
def runM (xs : List Full) (os : List Int) : Nat → Nat × List (List UInt8)
  | 0 => (0, [])
  | i + 1 => (fitF (atF xs (os.getD i 0)).1 (runM xs os i).1 (runM xs os i).2, fitL (atF xs (os.getD i 0)).1 (atF xs (os.getD i 0)).2.1 (runM xs os i).1 (runM xs os i).2)
def fitAt (xs : List Full) (os : List Int) (i : Nat) : Bool := fitOK (atF xs (os.getD i 0)).1 (atF xs (os.getD i 0)).2.2 (runM xs os i).1 (runM xs os i).2 || !(atF xs (os.getD i 0)).1.ans
/-- What Legal answers. -/
def LegalIs (xs : List Full) (os : List Int) (a e : Int) : Prop :=
  (rightC (cvs xs) = false ∧ a = 0 ∧ e = 1) ∨ (rightC (cvs xs) = true ∧ ((¬ ordP xs.length os ∧ a = 0 ∧ e = 1) ∨ (ordP xs.length os ∧ ((¬ ansP (cvs xs) os ∧ a = (os.length : Int) ∧ e = 3) ∨ (ansP (cvs xs) os ∧
    ((∃ i : Nat, i < os.length ∧ lateOK (cvs xs) os i = false ∧ (∀ j, j < i → lateOK (cvs xs) os j = true) ∧ a = (i : Int) ∧ e = 51) ∨ (lateP (cvs xs) os ∧
      ((∃ i : Nat, i < os.length ∧ fitAt xs os i = false ∧ (∀ j, j < i → fitAt xs os j = true) ∧ a = (i : Int) ∧ e = 51) ∨ ((∀ j, j < os.length → fitAt xs os j = true) ∧ a = 0 ∧ e = 0)))))))))
theorem first_one {P : Nat → Bool} {i k : Nat} (h1 : P i = false) (h2 : ∀ j, j < i → P j = true) (k1 : P k = false) (k2 : ∀ j, j < k → P j = true) : i = k := by
  rcases Nat.lt_trichotomy i k with h | h | h
  · rw [k2 i h] at h1; cases h1
  · exact h
  · rw [h2 k h] at k1; cases k1
theorem LegalIs.one {xs : List Full} {os : List Int} {a e b f : Int} (h : LegalIs xs os a e) (k : LegalIs xs os b f) : a = b ∧ e = f := by
  rcases h with ⟨h1, rfl, rfl⟩ | ⟨h1, h⟩
  · rcases k with ⟨k1, rfl, rfl⟩ | ⟨k1, k⟩
    · exact ⟨rfl, rfl⟩
    · rw [h1] at k1; cases k1
  rcases k with ⟨k1, rfl, rfl⟩ | ⟨k1, k⟩
  · rw [h1] at k1; cases k1
  rcases h with ⟨h2, rfl, rfl⟩ | ⟨h2, h⟩
  · rcases k with ⟨k2, rfl, rfl⟩ | ⟨k2, k⟩
    · exact ⟨rfl, rfl⟩
    · exact absurd k2 h2
  rcases k with ⟨k2, rfl, rfl⟩ | ⟨k2, k⟩
  · exact absurd h2 k2
  rcases h with ⟨h3, rfl, rfl⟩ | ⟨h3, h⟩
  · rcases k with ⟨k3, rfl, rfl⟩ | ⟨k3, k⟩
    · exact ⟨rfl, rfl⟩
    · exact absurd k3 h3
  rcases k with ⟨k3, rfl, rfl⟩ | ⟨k3, k⟩
  · exact absurd h3 k3
  rcases h with ⟨i, hi, i1, i2, rfl, rfl⟩ | ⟨h4, h⟩
  · rcases k with ⟨j, hj, j1, j2, rfl, rfl⟩ | ⟨k4, k⟩
    · exact ⟨by rw [first_one i1 i2 j1 j2], rfl⟩
    · rw [k4 i hi] at i1; cases i1
  rcases k with ⟨j, hj, j1, j2, rfl, rfl⟩ | ⟨k4, k⟩
  · rw [h4 j hj] at j1; cases j1
  rcases h with ⟨i, hi, i1, i2, rfl, rfl⟩ | ⟨h5, rfl, rfl⟩
  · rcases k with ⟨j, hj, j1, j2, rfl, rfl⟩ | ⟨k5, rfl, rfl⟩
    · exact ⟨by rw [first_one i1 i2 j1 j2], rfl⟩
    · rw [k5 i hi] at i1; cases i1
  rcases k with ⟨j, hj, j1, j2, rfl, rfl⟩ | ⟨k5, rfl, rfl⟩
  · rw [h5 j hj] at j1; cases j1
  · exact ⟨rfl, rfl⟩
/-- The least end behind. -/
def leastL (cs : List CV) : List Int → Int
  | [] => 1099511627776
  | o :: r => if (atC cs o).ans then min (leastL cs r) (atC cs o).fin else leastL cs r
theorem least_iff {cs : List CV} {x : Int} (hx : x ≤ 1099511627776) : ∀ os : List Int, x ≤ leastL cs os ↔ ∀ o ∈ os, (atC cs o).ans = true → x ≤ (atC cs o).fin
  | [] => by simpa [leastL] using hx
  | o :: r => by
    unfold leastL
    have ih := least_iff (cs := cs) hx r
    cases h : (atC cs o).ans
    · simp only [Bool.false_eq_true, if_false, List.mem_cons, forall_eq_or_imp, h, false_implies, true_and]
      exact ih
    · simp only [if_true, List.mem_cons, forall_eq_or_imp, h, true_implies]
      rw [← ih]
      omega
theorem late_iff {cs : List CV} {os : List Int} {i : Nat} (hx : (atC cs (os.getD i 0)).beg ≤ 1099511627776) : lateOK cs os i = true ↔ (atC cs (os.getD i 0)).beg ≤ leastL cs (os.drop (i + 1)) := by
  rw [least_iff hx]
  unfold lateOK
  rw [List.all_eq_true]
  refine forall_congr' fun o => forall_congr' fun ho => ?_
  cases (atC cs o).ans <;> simp
theorem alone_beg {c : CV} (h : aloneB c = true) : 0 ≤ c.beg ∧ c.beg < 1099511627776 := by
  unfold aloneB at h
  simp only [Bool.and_eq_true, decide_eq_true_eq] at h
  exact ⟨h.2.2.2.2.1, h.2.2.2.2.2.1⟩
theorem right_alone {cs : List CV} (h : rightC cs = true) : cs.length ≤ 2000 ∧ cs.all aloneB = true := by
  unfold rightC at h
  simp only [Bool.and_eq_true, decide_eq_true_eq] at h
  exact ⟨h.1, h.2.1⟩
/-- From the end, down to k: the place of the last that is late (as the walk comes to it), or -1. -/
def LateIs (cs : List CV) (os : List Int) (k : Nat) (late : Int) : Prop :=
  (late = -1 ∧ ∀ i, k ≤ i → i < os.length → lateOK cs os i = true) ∨ ∃ i : Nat, late = (i : Int) ∧ k ≤ i ∧ i < os.length ∧ lateOK cs os i = false ∧ ∀ j, k ≤ j → j < i → lateOK cs os j = true
theorem late_end {cs : List CV} {os : List Int} : LateIs cs os os.length (-1) := .inl ⟨rfl, fun i h1 h2 => by omega⟩
theorem late_bad {cs : List CV} {os : List Int} {k : Nat} (hk : k < os.length) (h : lateOK cs os k = false) : LateIs cs os k (k : Int) :=
  .inr ⟨k, rfl, Nat.le_refl _, hk, h, fun j h1 h2 => by omega⟩
theorem late_good {cs : List CV} {os : List Int} {k : Nat} {late : Int} (h : lateOK cs os k = true) (hl : LateIs cs os (k + 1) late) : LateIs cs os k late := by
  rcases hl with ⟨rfl, h1⟩ | ⟨i, rfl, h1, h2, h3, h4⟩
  · refine .inl ⟨rfl, fun i h2 h3 => ?_⟩
    rcases Nat.lt_or_ge k i with h4 | h4
    · exact h1 i h4 h3
    · obtain rfl : i = k := by omega
      exact h
  · refine .inr ⟨i, rfl, by omega, h2, h3, fun j h5 h6 => ?_⟩
    rcases Nat.lt_or_ge k j with h7 | h7
    · exact h4 j h7 h6
    · obtain rfl : j = k := by omega
      exact h
/-- Which were met. -/
def metL (n : Nat) (os : List Int) (i : Nat) : List Bool := (List.range n).map fun (k : Nat) => (os.take i).contains (k : Int)
theorem metL_length (n : Nat) (os : List Int) (i : Nat) : (metL n os i).length = n := by simp [metL]
theorem metL_get {n : Nat} {os : List Int} {i k : Nat} (hk : k < n) : (metL n os i).getD k false = (os.take i).contains (k : Int) := by
  unfold metL
  rw [List.getD_eq_getElem?_getD, List.getElem?_map, List.getElem?_range hk]
  rfl
theorem metL_zero (n : Nat) (os : List Int) : metL n os 0 = List.replicate n false := by
  apply List.ext_getElem?
  intro k
  unfold metL
  rcases Nat.lt_or_ge k n with h | h
  · rw [List.getElem?_map, List.getElem?_range h, List.getElem?_replicate, if_pos h]
    simp
  · rw [List.getElem?_eq_none (by simpa using h), List.getElem?_eq_none (by simpa using h)]
theorem metL_set {n : Nat} {os : List Int} {i k : Nat} (hi : i < os.length) (hk : os.getD i 0 = (k : Int)) : (metL n os i).set k true = metL n os (i + 1) := by
  apply List.ext_getElem?
  intro j
  have ht : os.take (i + 1) = os.take i ++ [(k : Int)] := by
    rw [List.take_succ_eq_append_getElem hi]
    rw [List.getD_eq_getElem?_getD, List.getElem?_eq_getElem hi] at hk
    rw [← hk]
    rfl
  rw [List.getElem?_set]
  unfold metL
  rcases Nat.lt_or_ge j n with h | h
  · rw [List.getElem?_map, List.getElem?_map, List.getElem?_range h]
    by_cases e : k = j
    · subst e
      rw [if_pos rfl, if_pos (by simpa using h), ht]
      simp
    · rw [if_neg e, ht]
      have : (j : Int) ≠ (k : Int) := fun h => e (by omega)
      simp [this]
  · rw [List.getElem?_eq_none (by simpa using h), List.getElem?_eq_none (by simpa using h)]
    by_cases e : k = j
    · subst e
      rw [if_pos rfl, if_neg (by simpa using h)]
    · rw [if_neg e]
theorem metL_all (n : Nat) (os : List Int) (k : Nat) (hk : k < n) : (metL n os os.length).getD k false = os.contains (k : Int) := by rw [metL_get hk, List.take_length]
theorem nodup_len : ∀ (n : Nat) (l : List Int), l.Nodup → (∀ x ∈ l, 0 ≤ x ∧ x < (n : Int)) → l.length ≤ n
  | 0, l, _, h => by
    cases l with
    | nil => exact Nat.le_refl _
    | cons x r => have := h x List.mem_cons_self; omega
  | n + 1, l, hd, h => by
    by_cases hm : (n : Int) ∈ l
    · have h1 := nodup_len n (l.erase (n : Int)) (hd.erase _) (fun x hx => by
        have h2 := (hd.mem_erase_iff).1 hx
        have h3 := h x h2.2
        have h4 := h2.1
        omega)
      rw [List.length_erase_of_mem hm] at h1
      omega
    · have h1 := nodup_len n l hd (fun x hx => by
        have h3 := h x hx
        have h4 : x ≠ (n : Int) := fun e => hm (e ▸ hx)
        omega)
      omega
theorem ordOK_iff {n : Nat} {os : List Int} {i : Nat} : ordOK n os i = true ↔ 0 ≤ os.getD i 0 ∧ os.getD i 0 < (n : Int) ∧ os.getD i 0 ∉ os.take i := by
  unfold ordOK
  simp [and_assoc]
theorem ord_nodup {n : Nat} {os : List Int} (h : ordP n os) : ∀ i, i ≤ os.length → (os.take i).Nodup ∧ ∀ x ∈ os.take i, 0 ≤ x ∧ x < (n : Int) := by
  intro i
  induction i with
  | zero => intro _; simp
  | succ i ih =>
    intro hi
    obtain ⟨h1, h2⟩ := ih (by omega)
    obtain ⟨k1, k2, k3⟩ := ordOK_iff.1 (h i (by omega))
    have hg : os.getD i 0 = os[i]'(by omega) := by
      rw [List.getD_eq_getElem?_getD, List.getElem?_eq_getElem (by omega)]
      rfl
    rw [hg] at k1 k2 k3
    rw [List.take_succ_eq_append_getElem (by omega)]
    constructor
    · rw [List.nodup_append]
      refine ⟨h1, by simp, ?_⟩
      intro a ha b hb
      simp only [List.mem_singleton] at hb
      subst hb
      exact fun e => k3 (e ▸ ha)
    · intro x hx
      rcases List.mem_append.1 hx with hx | hx
      · exact h2 x hx
      · simp only [List.mem_singleton] at hx
        subst hx
        exact ⟨k1, k2⟩
theorem ord_len {n : Nat} {os : List Int} (h : ordP n os) : os.length ≤ n := by
  obtain ⟨h1, h2⟩ := ord_nodup h os.length (Nat.le_refl _)
  rw [List.take_length] at h1 h2
  exact nodup_len n os h1 h2
theorem ord_mem {n : Nat} {os : List Int} (h : ordP n os) {i : Nat} (hi : i < os.length) : ∃ k : Nat, os.getD i 0 = (k : Int) ∧ k < n := by
  obtain ⟨k1, k2, _⟩ := ordOK_iff.1 (h i hi)
  exact ⟨(os.getD i 0).toNat, by omega, by omega⟩
theorem clampN_le {frm : Int} {first n : Nat} : first ≤ clampN frm first n ∧ clampN frm first n ≤ first + n := by
  unfold clampN
  omega
/-- The model stays small. -/
theorem run_bound (xs : List Full) (os : List Int) : ∀ i, (runM xs os i).1 + (runM xs os i).2.length ≤ i
  | 0 => Nat.le_refl _
  | i + 1 => by
    have ih := run_bound xs os i
    obtain ⟨f, hf⟩ : ∃ f, (runM xs os i).1 = f := ⟨_, rfl⟩
    obtain ⟨l, hl⟩ : ∃ l, (runM xs os i).2 = l := ⟨_, rfl⟩
    simp only [runM]
    rw [hf, hl] at ih ⊢
    unfold fitF fitL
    by_cases h3 : (atF xs (os.getD i 0)).1.kind = 3
    · rw [if_pos h3, if_neg (by omega), if_pos h3, List.length_drop]
      have := @clampN_le (atF xs (os.getD i 0)).1.frm f l.length
      omega
    · rw [if_neg h3]
      by_cases h1 : (atF xs (os.getD i 0)).1.kind = 1
      · rw [if_pos h1, List.length_append, List.length_singleton]
        omega
      · rw [if_neg h1, if_neg h3]
        omega
theorem atF_len {xs : List Full} {B : Nat} (h : ∀ y ∈ xs, y.2.1.length ≤ B) (o : Int) : (atF xs o).2.1.length ≤ B := by
  unfold atF
  rw [List.getD_eq_getElem?_getD]
  rcases Nat.lt_or_ge o.toNat xs.length with h1 | h1
  · rw [List.getElem?_eq_getElem h1]
    exact h _ (List.getElem_mem h1)
  · rw [List.getElem?_eq_none h1]
    exact Nat.zero_le _
theorem run_mem {xs : List Full} {B : Nat} (h : ∀ y ∈ xs, y.2.1.length ≤ B) (os : List Int) : ∀ i, ∀ x ∈ (runM xs os i).2, x.length ≤ B
  | 0 => by intro x hx; simp [runM] at hx
  | i + 1 => by
    intro x hx
    have ih := run_mem h os i x
    simp only [runM] at hx
    unfold fitL at hx
    split at hx
    · rcases List.mem_append.1 hx with h1 | h1
      · exact ih h1
      · simp only [List.mem_singleton] at h1
        subst h1
        exact atF_len h _
    · split at hx
      · exact ih (List.mem_of_mem_drop hx)
      · exact ih hx
theorem atF_fst (xs : List Full) (o : Int) : (atF xs o).1 = atC (cvs xs) o := by
  unfold atF atC cvs
  rw [List.getD_eq_getElem?_getD, List.getD_eq_getElem?_getD, List.getElem?_map]
  rcases Nat.lt_or_ge o.toNat xs.length with h1 | h1
  · rw [List.getElem?_eq_getElem h1]
    rfl
  · rw [List.getElem?_eq_none h1]
    rfl
end Go.Proofs.Ytbnbeailbhnbdaa
