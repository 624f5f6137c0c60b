/-
  Plain: neighbours by client and beginning, and any two.
-/
import Derived.Test.YtbnbeailbhnbdaaCall6
set_option linter.unusedVariables false
set_option linter.unusedSimpArgs false
namespace Go.Proofs.Ytbnbeailbhnbdaa
open Go.RowKit

/-- Any two calls of a client: one ends ahead of the other's beginning. -/
def pairP (cs : List CV) : Prop := ∀ i k : Nat, i < cs.length → k < cs.length → i ≠ k → (atC cs i).client = (atC cs k).client → (atC cs k).beg ≠ (atC cs i).beg ∧ ((atC cs i).beg < (atC cs k).beg → (atC cs i).ans = true ∧ (atC cs i).fin ≤ (atC cs k).beg)
theorem ltR_iff (cs : List CV) (x y : Int) : ltR cs x y = true ↔ (atC cs x).client < (atC cs y).client ∨ ((atC cs x).client = (atC cs y).client ∧ ((atC cs x).beg < (atC cs y).beg ∨ ((atC cs x).beg = (atC cs y).beg ∧ x < y))) := by
  unfold ltR ltK
  rw [decide_eq_true_eq]
  dsimp only
  omega
theorem bad_false {a b : CV} : badB a b = false ↔ (a.client = b.client → a.beg ≠ b.beg ∧ a.ans = true ∧ a.fin ≤ b.beg) := by
  unfold badB
  by_cases h1 : a.client = b.client
  · by_cases h2 : a.beg = b.beg
    · simp [h1, h2]
    · cases h3 : a.ans
      · simp [h1, h2]
      · simp [h1, h2]
  · simp [h1]
theorem alone_fin {c : CV} (h : aloneB c = true) (ha : c.ans = true) : c.beg < c.fin := by
  unfold aloneB endsB at h
  simp [ha] at h
  exact h.1.1
theorem alone_at {cs : List CV} (h : cs.all aloneB = true) {i : Nat} (hi : i < cs.length) : aloneB (atC cs (i : Int)) = true := by
  have : atC cs (i : Int) ∈ cs := by
    unfold atC
    rw [Int.toNat_natCast, List.getD_eq_getElem?_getD, List.getElem?_eq_getElem hi]
    exact List.getElem_mem hi
  exact List.all_eq_true.1 h _ this
theorem row_iff {cs : List CV} (hal : cs.all aloneB = true) : rowB cs = true ↔ pairP cs := by
  obtain ⟨n, hn⟩ : ∃ n, cs.length = n := ⟨_, rfl⟩
  obtain ⟨o, ho⟩ : ∃ o, srtI (ltR cs) 0 n = o := ⟨_, rfl⟩
  have hol : o.length = n := by rw [← ho, srtI_length, Nat.sub_zero]
  have hos : Srt (ltR cs) o := by rw [← ho]; exact srtI_srt (ltK_lo _ _ _) 0 n
  have hom : ∀ p, p < n → ∃ x : Nat, o.getD p 0 = (x : Int) ∧ x < n := by
    intro p hp
    have hm1 : o.getD p 0 ∈ srtI (ltR cs) 0 n := by rw [ho]; exact mem_getD (by omega)
    have := mem_srtI.1 hm1
    exact ⟨(o.getD p 0).toNat, by omega, by omega⟩
  have hpos : ∀ x : Nat, x < n → ∃ p, p < n ∧ o.getD p 0 = (x : Int) := by
    intro x hx
    have hm : (x : Int) ∈ o := by rw [← ho]; exact mem_srtI.2 ⟨by omega, by omega⟩
    obtain ⟨p, hp, hpx⟩ := List.getElem_of_mem hm
    exact ⟨p, by omega, by rw [getD_of hp]; exact hpx⟩
  have hlt : ∀ p q, p < q → q < n → ltR cs (o.getD p 0) (o.getD q 0) = true := fun p q hpq hq => srt_get hos hpq (by omega)
  have hrow : rowB cs = true ↔ ∀ p, p < n → nextOK cs o p = true := by
    unfold rowB
    rw [hn, ho, List.all_eq_true]
    exact ⟨fun h p hp => h p (List.mem_range.2 hp), fun h p hp => h p (List.mem_range.1 hp)⟩
  rw [hrow]
  unfold pairP
  rw [hn]
  constructor
  · intro h
    have hnb : ∀ p, p + 1 < n → (atC cs (o.getD p 0)).client = (atC cs (o.getD (p + 1) 0)).client → (atC cs (o.getD p 0)).beg ≠ (atC cs (o.getD (p + 1) 0)).beg ∧ (atC cs (o.getD p 0)).ans = true ∧ (atC cs (o.getD p 0)).fin ≤ (atC cs (o.getD (p + 1) 0)).beg := by
      intro p hp
      have h1 := h (p + 1) hp
      unfold nextOK at h1
      simp only [Nat.add_sub_cancel] at h1
      have h2 : ((p + 1 : Nat) == 0) = false := by simp
      rw [h2, Bool.false_or] at h1
      exact bad_false.1 (by simpa using h1)
    have hall : ∀ d p, p + d + 1 < n → (atC cs (o.getD p 0)).client = (atC cs (o.getD (p + d + 1) 0)).client → (atC cs (o.getD p 0)).ans = true ∧ (atC cs (o.getD p 0)).fin ≤ (atC cs (o.getD (p + d + 1) 0)).beg := by
      intro d
      induction d with
      | zero => exact fun p hp hc => (hnb p hp hc).2
      | succ d ih =>
        intro p hp hc
        have s1 := (ltR_iff cs _ _).1 (hlt p (p + d + 1) (by omega) (by omega))
        have s2 := (ltR_iff cs _ _).1 (hlt (p + d + 1) (p + (d + 1) + 1) (by omega) hp)
        have hce : (atC cs (o.getD p 0)).client = (atC cs (o.getD (p + d + 1) 0)).client := by omega
        have hi := ih p (by omega) hce
        refine ⟨hi.1, ?_⟩
        have := hi.2
        omega
    have hord : ∀ p q, p < q → q < n → (atC cs (o.getD p 0)).client = (atC cs (o.getD q 0)).client → (atC cs (o.getD p 0)).ans = true ∧ (atC cs (o.getD p 0)).fin ≤ (atC cs (o.getD q 0)).beg ∧ (atC cs (o.getD p 0)).beg < (atC cs (o.getD q 0)).beg := by
      intro p q hpq hq hc
      have h1 := hall (q - p - 1) p (by omega) (by rw [show p + (q - p - 1) + 1 = q by omega]; exact hc)
      rw [show p + (q - p - 1) + 1 = q by omega] at h1
      obtain ⟨x, hx, hxn⟩ := hom p (by omega)
      have h2 := alone_fin (c := atC cs (o.getD p 0)) (by rw [hx]; exact alone_at hal (by omega)) h1.1
      exact ⟨h1.1, h1.2, by omega⟩
    intro i k hi hk hik hc
    obtain ⟨p, hp, hpi⟩ := hpos i hi
    obtain ⟨q, hq, hqk⟩ := hpos k hk
    rw [← hpi, ← hqk] at hc ⊢
    rcases Nat.lt_trichotomy p q with h1 | h1 | h1
    · have := hord p q h1 hq hc
      exact ⟨by omega, fun _ => ⟨this.1, this.2.1⟩⟩
    · subst h1
      rw [hpi] at hqk
      omega
    · have := hord q p h1 hp hc.symm
      exact ⟨by omega, fun h => by omega⟩
  · intro h p hp
    unfold nextOK
    rcases Nat.eq_zero_or_pos p with h0 | h0
    · subst h0
      rfl
    · obtain ⟨x, hx, hxn⟩ := hom (p - 1) (by omega)
      obtain ⟨y, hy, hyn⟩ := hom p hp
      have hs := (ltR_iff cs _ _).1 (hlt (p - 1) p (by omega) hp)
      have hb : badB (atC cs (o.getD (p - 1) 0)) (atC cs (o.getD p 0)) = false := by
        rw [bad_false]
        intro hc
        rw [hx, hy] at hs hc ⊢
        have hxy : x ≠ y := by
          intro e
          subst e
          omega
        have h1 := h x y hxn hyn hxy hc
        have h2 : (atC cs (x : Int)).beg < (atC cs (y : Int)).beg := by omega
        exact ⟨by omega, h1.2 h2⟩
      rw [hb]
      simp
end Go.Proofs.Ytbnbeailbhnbdaa
