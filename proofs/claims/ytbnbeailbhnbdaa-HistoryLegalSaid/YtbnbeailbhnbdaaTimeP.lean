/-
  Plain: what a legal order says of puts and gets.
-/
import Derived.Test.YtbnbeailbhnbdaaLegQ
set_option linter.unusedVariables false
set_option linter.unusedSimpArgs false
namespace Go.Proofs.Ytbnbeailbhnbdaa
open Go.RowKit

/-- The next number. -/
def nx (xs : List Full) (os : List Int) (t : Nat) : Nat := (runM xs os t).1 + (runM xs os t).2.length
theorem nx_put {xs : List Full} {os : List Int} {t : Nat} (h : (atF xs (os.getD t 0)).1.kind = 1) : nx xs os (t + 1) = nx xs os t + 1 := by
  unfold nx
  simp only [runM]
  unfold fitF fitL
  rw [if_neg (by omega), if_pos h, List.length_append, List.length_singleton]
  omega
theorem nx_other {xs : List Full} {os : List Int} {t : Nat} (h : (atF xs (os.getD t 0)).1.kind ≠ 1) : nx xs os (t + 1) = nx xs os t := by
  unfold nx
  simp only [runM]
  unfold fitF fitL
  rw [if_neg h]
  split
  · have := @clampN_le (atF xs (os.getD t 0)).1.frm (runM xs os t).1 (runM xs os t).2.length
    rw [List.length_drop]
    omega
  · rfl
theorem nx_mono {xs : List Full} {os : List Int} {s t : Nat} (h : s ≤ t) : nx xs os s ≤ nx xs os t := by
  induction t with
  | zero =>
    obtain rfl : s = 0 := by omega
    exact Nat.le_refl _
  | succ t ih =>
    rcases Nat.lt_or_ge s (t + 1) with h1 | h1
    · have h2 := ih (by omega)
      by_cases hk : (atF xs (os.getD t 0)).1.kind = 1
      · rw [nx_put hk]; omega
      · rw [nx_other hk]; exact h2
    · obtain rfl : s = t + 1 := by omega
      exact Nat.le_refl _
theorem nx_past {xs : List Full} {os : List Int} {s t : Nat} (h : s < t) (hk : (atF xs (os.getD s 0)).1.kind = 1) : nx xs os s < nx xs os t := by
  have h1 := nx_mono (xs := xs) (os := os) (show s + 1 ≤ t by omega)
  rw [nx_put hk] at h1
  omega
/-- A legal order. -/
structure Lawful (xs : List Full) (os : List Int) : Prop where
  right : rightC (cvs xs) = true
  ord : ordP xs.length os
  ans : ansP (cvs xs) os
  late : lateP (cvs xs) os
  fit : ∀ j, j < os.length → fitAt xs os j = true
theorem LegalIs.lawful {xs : List Full} {os : List Int} {a : Int} (h : LegalIs xs os a 0) : Lawful xs os := by
  rcases h with ⟨_, _, h⟩ | ⟨h1, ⟨_, _, h⟩ | ⟨h2, ⟨_, _, h⟩ | ⟨h3, ⟨_, _, _, _, _, h⟩ | ⟨h4, ⟨_, _, _, _, _, h⟩ | ⟨h5, _, _⟩⟩⟩⟩⟩
  all_goals first | cases h | exact ⟨h1, h2, h3, h4, h5⟩
theorem Lawful.legal {xs : List Full} {os : List Int} (h : Lawful xs os) : LegalIs xs os 0 0 := .inr ⟨h.right, .inr ⟨h.ord, .inr ⟨h.ans, .inr ⟨h.late, .inr ⟨h.fit, rfl, rfl⟩⟩⟩⟩⟩
section
variable {xs : List Full} {os : List Int}
/-- Who was answered stands in it. -/
theorem Lawful.place (h : Lawful xs os) {i : Nat} (hi : i < xs.length) (ha : (atF xs (i : Int)).1.ans = true) : ∃ u, u < os.length ∧ os.getD u 0 = (i : Int) := by
  have h1 := h.ans i (by rw [cvs_length]; exact hi)
  unfold ansOK at h1
  rw [← atF_fst, ha] at h1
  simp at h1
  obtain ⟨u, hu, e⟩ := List.getElem_of_mem h1
  exact ⟨u, hu, by rw [getD_of hu]; exact e⟩
theorem Lawful.put_number (h : Lawful xs os) {i u : Nat} (hu : u < os.length) (e : os.getD u 0 = (i : Int)) (ha : (atF xs (i : Int)).1.ans = true) (hk : (atF xs (i : Int)).1.kind = 1) : (atF xs (i : Int)).1.number = ((nx xs os u : Nat) : Int) := by
  have h1 := h.fit u hu
  unfold fitAt at h1
  rw [e, ha] at h1
  simp only [Bool.not_true, Bool.or_false] at h1
  unfold fitOK at h1
  rw [if_pos hk] at h1
  exact beq_iff_eq.1 h1
theorem Lawful.get_fit (h : Lawful xs os) {i u : Nat} (hu : u < os.length) (e : os.getD u 0 = (i : Int)) (ha : (atF xs (i : Int)).1.ans = true) (hk : (atF xs (i : Int)).1.kind = 2) :
    getOK (atF xs (i : Int)).1.frm (runM xs os u).1 (runM xs os u).2.length = true ∧ (atF xs (i : Int)).1.number = ((nx xs os u : Nat) : Int) ∧ getL (atF xs (i : Int)).1.frm (atF xs (i : Int)).1.most (runM xs os u).1 (runM xs os u).2 = (atF xs (i : Int)).2.2 := by
  have h1 := h.fit u hu
  unfold fitAt at h1
  rw [e, ha] at h1
  simp only [Bool.not_true, Bool.or_false] at h1
  unfold fitOK at h1
  rw [if_neg (by omega), if_neg (by omega)] at h1
  simp only [Bool.and_eq_true, beq_iff_eq, decide_eq_true_eq] at h1
  exact ⟨h1.1, h1.2.1, h1.2.2.2⟩
theorem Lawful.ahead (h : Lawful xs os) {i k u v : Nat} (huv : u < v) (hv : v < os.length) (eu : os.getD u 0 = (i : Int)) (ev : os.getD v 0 = (k : Int)) (ha : (atF xs (k : Int)).1.ans = true) : (atF xs (i : Int)).1.beg ≤ (atF xs (k : Int)).1.fin := by
  have h1 := h.late u (by omega)
  unfold lateOK at h1
  rw [List.all_eq_true] at h1
  have h2 := h1 (k : Int) (by
    rw [← ev, getD_of hv]
    refine List.mem_of_getElem? (i := v - (u + 1)) ?_
    rw [List.getElem?_drop, show u + 1 + (v - (u + 1)) = v by omega, List.getElem?_eq_getElem hv])
  rw [eu, ← atF_fst, ← atF_fst, ha] at h2
  simpa using h2
/-- Which of two stands ahead. -/
theorem Lawful.time (h : Lawful xs os) {i k : Nat} (hi : i < xs.length) (hk : k < xs.length) (pi : (atF xs (i : Int)).1.kind = 1) (pk : (atF xs (k : Int)).1.kind = 2) (ai : (atF xs (i : Int)).1.ans = true) (ak : (atF xs (k : Int)).1.ans = true) :
    ¬ ((atF xs (i : Int)).1.fin < (atF xs (k : Int)).1.beg ∧ (atF xs (k : Int)).1.number ≤ (atF xs (i : Int)).1.number) ∧ ¬ ((atF xs (k : Int)).1.fin < (atF xs (i : Int)).1.beg ∧ (atF xs (i : Int)).1.number < (atF xs (k : Int)).1.number) := by
  obtain ⟨u, hu, eu⟩ := h.place hi ai
  obtain ⟨v, hv, ev⟩ := h.place hk ak
  have n1 := h.put_number hu eu ai pi
  obtain ⟨_, n2, _⟩ := h.get_fit hv ev ak pk
  rcases Nat.lt_trichotomy u v with huv | huv | huv
  · have h1 := h.ahead huv hv eu ev ak
    have h2 := nx_past (xs := xs) (os := os) huv (by rw [eu]; exact pi)
    rw [n1, n2]
    omega
  · subst huv
    rw [eu] at ev
    obtain rfl : i = k := by omega
    omega
  · have h1 := h.ahead huv hu ev eu ai
    have h2 := nx_mono (xs := xs) (os := os) (show v ≤ u by omega)
    rw [n1, n2]
    omega
/-- No two puts were told one number. -/
theorem Lawful.puts (h : Lawful xs os) {i k : Nat} (hi : i < xs.length) (hk : k < xs.length) (pi : (atF xs (i : Int)).1.kind = 1) (pk : (atF xs (k : Int)).1.kind = 1) (ai : (atF xs (i : Int)).1.ans = true) (ak : (atF xs (k : Int)).1.ans = true) (he : (atF xs (i : Int)).1.number = (atF xs (k : Int)).1.number) : i = k := by
  obtain ⟨u, hu, eu⟩ := h.place hi ai
  obtain ⟨v, hv, ev⟩ := h.place hk ak
  have n1 := h.put_number hu eu ai pi
  have n2 := h.put_number hv ev ak pk
  rcases Nat.lt_trichotomy u v with huv | huv | huv
  · have h2 := nx_past (xs := xs) (os := os) huv (by rw [eu]; exact pi)
    omega
  · subst huv
    rw [eu] at ev
    omega
  · have h2 := nx_past (xs := xs) (os := os) huv (by rw [ev]; exact pk)
    omega
/-- Each record was put. -/
theorem run_src (xs : List Full) (os : List Int) : ∀ v j, j < (runM xs os v).2.length → ∃ u, u < v ∧ (atF xs (os.getD u 0)).1.kind = 1 ∧ nx xs os u = (runM xs os v).1 + j ∧ (runM xs os v).2[j]? = some (atF xs (os.getD u 0)).2.1
  | 0 => by intro j hj; simp [runM] at hj
  | v + 1 => by
    intro j hj
    have ih := run_src xs os v
    simp only [runM] at hj ⊢
    obtain ⟨f, hf⟩ : ∃ f, (runM xs os v).1 = f := ⟨_, rfl⟩
    obtain ⟨l, hl⟩ : ∃ l, (runM xs os v).2 = l := ⟨_, rfl⟩
    have hnx : nx xs os v = f + l.length := by unfold nx; rw [hf, hl]
    rw [hf, hl] at hj ih ⊢
    unfold fitF fitL at *
    by_cases h1 : (atF xs (os.getD v 0)).1.kind = 1
    · have n3 : ¬ (atF xs (os.getD v 0)).1.kind = 3 := by omega
      simp only [if_neg n3, if_pos h1] at hj ⊢
      rw [List.length_append, List.length_singleton] at hj
      rcases Nat.lt_or_ge j l.length with h2 | h2
      · obtain ⟨u, hu, k1, k2, k3⟩ := ih j h2
        exact ⟨u, by omega, k1, k2, by rw [List.getElem?_append_left h2]; exact k3⟩
      · obtain rfl : j = l.length := by omega
        exact ⟨v, by omega, h1, hnx, by rw [List.getElem?_append_right (Nat.le_refl _), Nat.sub_self]; rfl⟩
    · by_cases h3 : (atF xs (os.getD v 0)).1.kind = 3
      · simp only [if_neg h1, if_pos h3] at hj ⊢
        obtain ⟨c, hc⟩ : ∃ c, clampN (atF xs (os.getD v 0)).1.frm f l.length = c := ⟨_, rfl⟩
        have hcl := @clampN_le (atF xs (os.getD v 0)).1.frm f l.length
        rw [hc] at hj hcl ⊢
        rw [List.length_drop] at hj
        obtain ⟨u, hu, k1, k2, k3⟩ := ih (c - f + j) (by omega)
        exact ⟨u, by omega, k1, by omega, by rw [List.getElem?_drop]; exact k3⟩
      · simp only [if_neg h1, if_neg h3] at hj ⊢
        obtain ⟨u, hu, k1, k2, k3⟩ := ih j hj
        exact ⟨u, by omega, k1, k2, k3⟩
/-- A get has at a put's number that put's data. -/
theorem Lawful.gets (h : Lawful xs os) {i k q : Nat} (hi : i < xs.length) (hk : k < xs.length) (pi : (atF xs (i : Int)).1.kind = 1) (pk : (atF xs (k : Int)).1.kind = 2) (ai : (atF xs (i : Int)).1.ans = true) (ak : (atF xs (k : Int)).1.ans = true)
    {r : List UInt8} (hq : (atF xs (k : Int)).2.2[q]? = some r) (he : (atF xs (i : Int)).1.number = (atF xs (k : Int)).1.frm + (q : Int)) : (atF xs (i : Int)).2.1 = r := by
  obtain ⟨u, hu, eu⟩ := h.place hi ai
  obtain ⟨v, hv, ev⟩ := h.place hk ak
  have n1 := h.put_number hu eu ai pi
  obtain ⟨g1, n2, g2⟩ := h.get_fit hv ev ak pk
  obtain ⟨f, hf⟩ : ∃ f, (runM xs os v).1 = f := ⟨_, rfl⟩
  obtain ⟨l, hl⟩ : ∃ l, (runM xs os v).2 = l := ⟨_, rfl⟩
  have hsrc := run_src xs os v
  rw [hf, hl] at g1 g2 hsrc
  rw [← g2] at hq
  unfold getL at hq
  rw [if_pos g1] at hq
  have hq2 : (l.drop ((atF xs (k : Int)).1.frm - f).toNat)[q]? = some r := by
    rw [List.getElem?_take] at hq
    split at hq
    · exact hq
    · cases hq
  rw [List.getElem?_drop] at hq2
  have hlt := (List.getElem?_eq_some_iff.1 hq2).1
  obtain ⟨u', hu', k1, k2, k3⟩ := hsrc _ hlt
  rw [hq2] at k3
  have hfr : (f : Int) ≤ (atF xs (k : Int)).1.frm := by
    unfold getOK at g1
    simp at g1
    exact g1.1
  have hnn : nx xs os u = nx xs os u' := by omega
  have huu : u = u' := by
    rcases Nat.lt_trichotomy u u' with huv | huv | huv
    · have h2 := nx_past (xs := xs) (os := os) huv (by rw [eu]; exact pi)
      omega
    · exact huv
    · have h2 := nx_past (xs := xs) (os := os) huv k1
      omega
  subst huu
  rw [eu] at k3
  exact (Option.some.inj k3).symm
end
end Go.Proofs.Ytbnbeailbhnbdaa
