/-
  Layer 11, plain: lists of servers as sets; what a quorum reaches. No program in sight.
-/
import Derived.Test.YtopcgnilajmnhaaConf6
set_option linter.unusedVariables false
set_option linter.unusedSimpArgs false
namespace Go.Proofs.Ytopcgnilajmnhaa
open Go.RowKit

/-! ### lists in order -/
theorem sorted_ext : ∀ {a b : List Int}, a.Pairwise (· < ·) → b.Pairwise (· < ·) → (∀ x, x ∈ a ↔ x ∈ b) → a = b
  | [], [], _, _, _ => rfl
  | [], y :: l, _, _, h => by have := (h y).2 List.mem_cons_self; simp at this
  | x :: l, [], _, _, h => by have := (h x).1 List.mem_cons_self; simp at this
  | x :: k, y :: l, ha, hb, h => by
    have ha' := List.pairwise_cons.1 ha
    have hb' := List.pairwise_cons.1 hb
    have hxy : x = y := by
      have h1 := (h x).1 List.mem_cons_self
      have h2 := (h y).2 List.mem_cons_self
      rcases List.mem_cons.1 h1 with h1 | h1
      · exact h1
      · rcases List.mem_cons.1 h2 with h2 | h2
        · exact h2.symm
        · have := hb'.1 x h1
          have := ha'.1 y h2
          omega
    subst hxy
    rw [sorted_ext ha'.2 hb'.2 fun z => ?_]
    constructor
    · intro hz
      rcases List.mem_cons.1 ((h z).1 (List.mem_cons_of_mem _ hz)) with e | e
      · subst e; have := ha'.1 z hz; omega
      · exact e
    · intro hz
      rcases List.mem_cons.1 ((h z).2 (List.mem_cons_of_mem _ hz)) with e | e
      · subst e; have := hb'.1 z hz; omega
      · exact e
theorem nodup_of_sorted {a : List Int} (h : a.Pairwise (· < ·)) : a.Nodup := h.imp fun h => by omega
theorem nodup_len : ∀ {xs ys : List Int}, xs.Nodup → (∀ x ∈ xs, x ∈ ys) → xs.length ≤ ys.length
  | [], _, _, _ => Nat.zero_le _
  | x :: l, ys, h, hs => by
    have hn := List.nodup_cons.1 h
    have hx := hs x List.mem_cons_self
    have ih := nodup_len (ys := ys.erase x) hn.2 (fun z hz => (List.mem_erase_of_ne (fun e => hn.1 (by rw [← e]; exact hz))).2 (hs z (List.mem_cons_of_mem _ hz)))
    rw [List.length_erase_of_mem hx] at ih
    have := List.length_pos_of_mem hx
    simp
    omega
theorem nodup_back {xs ys : List Int} (h : xs.Nodup) (hs : ∀ x ∈ xs, x ∈ ys) (hl : ys.length ≤ xs.length) : ∀ y ∈ ys, y ∈ xs := fun y hy => Classical.byContradiction fun hn => by
  have := nodup_len (xs := y :: xs) (ys := ys) (List.nodup_cons.2 ⟨hn, h⟩) (fun z hz => (List.mem_cons.1 hz).elim (fun e => e ▸ hy) (hs z))
  simp at this
  omega
theorem exists_new {xs ys : List Int} (h : ys.Nodup) (hl : xs.length < ys.length) : ∃ y ∈ ys, y ∉ xs := Classical.byContradiction fun hn => by
  have := nodup_len h (ys := xs) (fun y hy => Classical.byContradiction fun hx => hn ⟨y, hy, hx⟩)
  omega
/-! ### Right -/
structure RightP (l : List Int) : Prop where
  sorted : l.Pairwise (· < ·)
  range : ∀ x ∈ l, 0 ≤ x ∧ x < 16
  pos : 1 ≤ l.length
  most : l.length ≤ 7
theorem rightP_of {l : List Int} (h : rightB l = true) : RightP l := by
  unfold rightB at h
  simp only [Bool.and_eq_true, List.all_eq_true, decide_eq_true_eq, List.mem_range] at h
  obtain ⟨h1, h2, h3⟩ := h
  have hb : ∀ i, (hi : i < l.length) → 0 ≤ l[i] ∧ l[i] < 16 ∧ ∀ (h0 : 0 < i), l[i - 1] < l[i] := by
    intro i hi
    have := h1 i hi
    simp only [Bool.not_eq_true', badAt, Bool.or_eq_false_iff, Bool.and_eq_false_iff, decide_eq_false_iff_not] at this
    rw [getD_at hi] at this
    refine ⟨by omega, by omega, fun h0 => ?_⟩
    have h4 := this.2.2
    rw [getD_at (show i - 1 < l.length by omega)] at h4
    omega
  have hlt : ∀ d i, (hj : i + d + 1 < l.length) → l[i]'(by omega) < l[i + d + 1] := by
    intro d
    induction d with
    | zero =>
      intro i hj
      exact (hb (i + 1) (by omega)).2.2 (by omega)
    | succ d ih =>
      intro i hj
      have k1 := ih i (by omega)
      have k2 := (hb (i + (d + 1) + 1) hj).2.2 (by omega)
      have k3 : l[i + d + 1]'(by omega) = l[i + (d + 1) + 1 - 1]'(by omega) := by congr 1
      omega
  refine ⟨?_, ?_, h2, h3⟩
  · rw [List.pairwise_iff_getElem]
    intro i j hi hj hij
    have := hlt (j - i - 1) i (by omega)
    have e : l[i + (j - i - 1) + 1]'(by omega) = l[j] := by congr 1; omega
    omega
  · intro x hx
    obtain ⟨i, hi, rfl⟩ := List.getElem_of_mem hx
    exact ⟨(hb i hi).1, (hb i hi).2.1⟩
theorem rightB_of {l : List Int} (h : RightP l) : rightB l = true := by
  unfold rightB
  simp only [Bool.and_eq_true, List.all_eq_true, decide_eq_true_eq, List.mem_range]
  refine ⟨fun i hi => ?_, h.pos, h.most⟩
  simp only [Bool.not_eq_true', badAt, Bool.or_eq_false_iff, Bool.and_eq_false_iff, decide_eq_false_iff_not]
  rw [getD_at hi]
  have hr := h.range _ (List.getElem_mem hi)
  refine ⟨by omega, by omega, ?_⟩
  by_cases h0 : 0 < i
  · right
    rw [getD_at (show i - 1 < l.length by omega)]
    have := (List.pairwise_iff_getElem.1 h.sorted) (i - 1) i (by omega) hi (by omega)
    omega
  · exact .inl h0
theorem RightP.nodup {l : List Int} (h : RightP l) : l.Nodup := nodup_of_sorted h.sorted
theorem RightP.wf {l : List Int} (h : RightP l) : ∀ x ∈ l, (Lit.int .i64 x).wf = true := fun x hx => by
  have := h.range x hx
  simp [Lit.wf, IntKind.min, IntKind.max, IntKind.signed, IntKind.bits]
  omega
/-! ### Change -/
theorem filt_sorted {l : List Int} (h : l.Pairwise (· < ·)) (x : Int) : (filt l x).Pairwise (· < ·) := h.filter _
theorem mem_filt {l : List Int} {x z : Int} : z ∈ filt l x ↔ z ∈ l ∧ z ≠ x := by simp [filt]
theorem mem_sortL {l : List Int} {z : Int} : z ∈ sortL l ↔ z ∈ l := by simp [sortL]
theorem sortL_le (l : List Int) : (sortL l).Pairwise (· ≤ ·) := by
  have := List.pairwise_mergeSort (le := fun x y : Int => decide (x ≤ y)) (fun a b c h1 h2 => by simp at *; omega) (fun a b => by simp; omega) l
  exact this.imp fun h => by simpa using h
theorem sortL_sorted {l : List Int} (h : l.Nodup) : (sortL l).Pairwise (· < ·) := by
  have h1 := sortL_le l
  have h2 : (sortL l).Nodup := (List.mergeSort_perm l _).nodup_iff.2 h
  exact h1.imp₂ (fun a b h1 h2 => by omega) h2
theorem changeE_zero {l : List Int} {add : Bool} {id : Int} : changeE l add id = 0 ↔ rightB l = true ∧ 0 ≤ id ∧ id < 16 ∧ add = !hasB l id ∧ (add = true → l.length ≠ 7) ∧ (add = false → l.length ≠ 1) := by
  unfold changeE
  constructor
  · intro h
    split at h
    · cases h
    · rename_i h1
      split at h
      · cases h
      · rename_i h2
        simp only [not_or, Bool.not_eq_false, not_and] at h1 h2
        refine ⟨h1.1, by omega, by omega, ?_, h2.2.1, h2.2.2⟩
        have := h2.1
        cases add <;> cases hh : hasB l id <;> simp_all
  · rintro ⟨h1, h2, h3, h4, h5, h6⟩
    rw [if_neg (by rw [h1]; simp; omega), if_neg]
    rintro (h | h | h)
    · rw [h4] at h
      cases hh : hasB l id <;> simp [hh] at h
    · exact h5 h.1 h.2
    · exact h6 h.1 h.2
def ints16 : List Int := (List.range 16).map fun (n : Nat) => Int.ofNat n
def refL (l : List Int) (add : Bool) (id : Int) : List Int := ints16.filter fun i => (i == id && add) || (!(i == id) && hasB l i)
theorem ints16_sorted : ints16.Pairwise (· < ·) := by
  unfold ints16
  decide
theorem mem_ints16 {x : Int} : x ∈ ints16 ↔ 0 ≤ x ∧ x < 16 := by
  unfold ints16
  rw [List.mem_map]
  constructor
  · rintro ⟨n, hn, rfl⟩
    simp at hn
    exact ⟨Int.natCast_nonneg n, by show (n : Int) < 16; omega⟩
  · rintro ⟨h1, h2⟩
    exact ⟨x.toNat, by simp; omega, Int.toNat_of_nonneg h1⟩
theorem change_mem {l : List Int} {add : Bool} {id : Int} (h : changeE l add id = 0) {z : Int} : z ∈ changeL l add id ↔ (z = id ∧ add = true) ∨ (z ≠ id ∧ z ∈ l) := by
  obtain ⟨h1, h2, h3, h4, h5, h6⟩ := changeE_zero.1 h
  unfold changeL
  rw [if_pos h]
  cases hh : hasB l id with
  | false =>
    rw [hh] at h4
    have hn : id ∉ l := fun hm => by rw [hasB_mem.2 hm] at hh; cases hh
    rw [h4, if_pos (show (!false) = true from rfl), mem_sortL]
    simp
    constructor
    · rintro (h | h)
      · exact .inr ⟨fun e => hn (e ▸ h), h⟩
      · exact .inl h
    · rintro (h | h)
      · exact .inr h
      · exact .inl h.2
  | true =>
    rw [hh] at h4
    rw [h4, if_neg (by decide), mem_filt]
    simp
    exact And.comm
theorem change_sorted {l : List Int} {add : Bool} {id : Int} (h : changeE l add id = 0) : (changeL l add id).Pairwise (· < ·) := by
  obtain ⟨h1, h2, h3, h4, h5, h6⟩ := changeE_zero.1 h
  have hr := rightP_of h1
  unfold changeL
  rw [if_pos h]
  split
  · rename_i ha
    rw [ha] at h4
    have hn : id ∉ l := fun hm => by rw [hasB_mem.2 hm] at h4; cases h4
    refine sortL_sorted ?_
    rw [List.nodup_append]
    exact ⟨hr.nodup, by simp, fun a ha b hb e => by simp at hb; subst hb; exact hn (e ▸ ha)⟩
  · exact filt_sorted hr.sorted id
theorem change_ref {l : List Int} {add : Bool} {id : Int} (h : changeE l add id = 0) : changeL l add id = refL l add id := by
  obtain ⟨h1, h2, h3, h4, h5, h6⟩ := changeE_zero.1 h
  have hr := rightP_of h1
  refine sorted_ext (change_sorted h) (ints16_sorted.filter _) fun z => ?_
  rw [change_mem h]
  unfold refL
  rw [List.mem_filter, mem_ints16]
  simp only [Bool.or_eq_true, Bool.and_eq_true, beq_iff_eq, Bool.not_eq_true', beq_eq_false_iff_ne, ne_eq, hasB_mem]
  constructor
  · rintro (⟨rfl, ha⟩ | ⟨hz, hm⟩)
    · exact ⟨⟨h2, h3⟩, .inl ⟨rfl, ha⟩⟩
    · exact ⟨hr.range z hm, .inr ⟨hz, hm⟩⟩
  · exact fun h => h.2
theorem change_len {l : List Int} {add : Bool} {id : Int} (h : changeE l add id = 0) : (changeL l add id).length = if add = true then l.length + 1 else l.length - 1 := by
  obtain ⟨h1, h2, h3, h4, h5, h6⟩ := changeE_zero.1 h
  have hr := rightP_of h1
  have hs := nodup_of_sorted (change_sorted h)
  cases ha : add with
  | true =>
    rw [if_pos rfl]
    unfold changeL
    subst ha
    rw [if_pos h, if_pos rfl]
    simp [sortL_length]
  | false =>
    rw [if_neg (by decide)]
    subst ha
    have hm : id ∈ l := hasB_mem.1 (by revert h4; cases hasB l id <;> simp)
    have e1 := nodup_len (xs := id :: changeL l false id) (ys := l) (List.nodup_cons.2 ⟨fun hx => by rw [change_mem h] at hx; simp at hx, hs⟩) (fun z hz => by
      rcases List.mem_cons.1 hz with e | e
      · exact e ▸ hm
      · rw [change_mem h] at e
        simp at e
        exact e.2)
    have e2 := nodup_len (xs := l) (ys := id :: changeL l false id) hr.nodup (fun z hz => by
      by_cases e : z = id
      · exact e ▸ List.mem_cons_self
      · exact List.mem_cons_of_mem _ ((change_mem h).2 (.inr ⟨e, hz⟩)))
    simp at e1 e2
    omega
theorem change_right {l : List Int} {add : Bool} {id : Int} (h : changeE l add id = 0) : RightP (changeL l add id) := by
  obtain ⟨h1, h2, h3, h4, h5, h6⟩ := changeE_zero.1 h
  have hr := rightP_of h1
  have hl := change_len h
  have hp := hr.pos
  have hm := hr.most
  refine ⟨change_sorted h, fun z hz => ?_, ?_, ?_⟩
  · rcases (change_mem h).1 hz with ⟨rfl, _⟩ | ⟨_, hz⟩
    · exact ⟨h2, h3⟩
    · exact hr.range z hz
  · split at hl
    · omega
    · rename_i ha
      have := h6 (by simpa using ha)
      omega
  · split at hl
    · rename_i ha
      have := h5 ha
      omega
    · omega
/-- What was added can be removed, and the other way round. -/
theorem change_back {l : List Int} {add : Bool} {id : Int} (h : changeE l add id = 0) : changeE (changeL l add id) (!add) id = 0 ∧ changeL (changeL l add id) (!add) id = l ∧ hasB (changeL l add id) id = add := by
  obtain ⟨h1, h2, h3, h4, h5, h6⟩ := changeE_zero.1 h
  have hr := rightP_of h1
  have hp := hr.pos
  have hm := hr.most
  have hl := change_len h
  have hh : hasB (changeL l add id) id = add := by
    cases ha : add with
    | true => exact hasB_mem.2 ((change_mem (ha ▸ h)).2 (.inl ⟨rfl, rfl⟩))
    | false =>
      cases hq : hasB (changeL l false id) id with
      | false => rfl
      | true =>
        have := (change_mem (ha ▸ h)).1 (hasB_mem.1 hq)
        simp at this
  have h0 : changeE (changeL l add id) (!add) id = 0 := by
    rw [changeE_zero]
    refine ⟨rightB_of (change_right h), h2, h3, by rw [hh], fun ha => ?_, fun ha => ?_⟩
    · rw [hl, if_neg (by simpa using ha)]; omega
    · rw [hl, if_pos (by simpa using ha)]; omega
  refine ⟨h0, sorted_ext (change_sorted h0) hr.sorted fun z => ?_, hh⟩
  rw [change_mem h0, change_mem h]
  constructor
  · rintro (⟨rfl, ha⟩ | ⟨hz, ⟨e, _⟩ | ⟨_, hm⟩⟩)
    · rw [h4] at ha
      exact hasB_mem.1 (by simpa using ha)
    · exact absurd e hz
    · exact hm
  · intro hz
    by_cases e : z = id
    · subst e
      rw [hasB_mem.2 hz] at h4
      exact .inl ⟨rfl, by rw [h4]; rfl⟩
    · exact .inr ⟨e, .inr ⟨e, hz⟩⟩
/-! ### Beside -/
def nearB (s l : List Int) : Bool := decide (commonN s l = s.length) && decide (l.length ≤ s.length + 1)
def besideB (a b : List Int) : Bool := rightB a && (rightB b && if b.length < a.length then nearB b a else nearB a b)
def refBesideB (a b : List Int) : Bool := rightB a && (rightB b && (sameB a b || ints16.any fun id => decide (changeE a (!hasB a id) id = 0) && sameB (refL a (!hasB a id) id) b))
theorem commonN_eq {s l : List Int} : commonN s l = s.length ↔ ∀ x ∈ s, x ∈ l := by
  unfold commonN
  rw [List.length_filter_eq_length_iff]
  exact ⟨fun h x hx => hasB_mem.1 (h x hx), fun h x hx => hasB_mem.2 (h x hx)⟩
theorem near_iff {s l : List Int} : nearB s l = true ↔ (∀ x ∈ s, x ∈ l) ∧ l.length ≤ s.length + 1 := by
  unfold nearB
  rw [Bool.and_eq_true, decide_eq_true_eq, decide_eq_true_eq, commonN_eq]
/-- One step from a leads to b. -/
def StepP (a b : List Int) : Prop := a = b ∨ ∃ id, 0 ≤ id ∧ id < 16 ∧ changeE a (!hasB a id) id = 0 ∧ changeL a (!hasB a id) id = b
theorem step_of_sub {a b : List Int} (ha : RightP a) (hb : RightP b) (hs : ∀ x ∈ a, x ∈ b) (hl : b.length ≤ a.length + 1) : StepP a b := by
  by_cases e : b.length ≤ a.length
  · exact .inl (sorted_ext ha.sorted hb.sorted fun z => ⟨hs z, nodup_back ha.nodup hs e z⟩)
  · obtain ⟨id, hid, hn⟩ := exists_new hb.nodup (show a.length < b.length by omega)
    have hr := hb.range id hid
    have hh : hasB a id = false := by
      cases hh : hasB a id with
      | false => rfl
      | true => exact absurd (hasB_mem.1 hh) hn
    have h0 : changeE a (!hasB a id) id = 0 := by
      rw [changeE_zero]
      refine ⟨rightB_of ha, hr.1, hr.2, rfl, fun _ => ?_, fun h => ?_⟩
      · have := hb.most; omega
      · rw [hh] at h; cases h
    refine .inr ⟨id, hr.1, hr.2, h0, sorted_ext (change_sorted h0) hb.sorted fun z => ?_⟩
    rw [change_mem h0, hh]
    constructor
    · rintro (⟨rfl, _⟩ | ⟨_, h⟩)
      · exact hid
      · exact hs z h
    · intro hz
      have hnd : (id :: a).Nodup := List.nodup_cons.2 ⟨hn, ha.nodup⟩
      have := nodup_back hnd (fun x hx => (List.mem_cons.1 hx).elim (fun e => e ▸ hid) (hs x)) (by simp; omega) z hz
      rcases List.mem_cons.1 this with e | e
      · exact .inl ⟨e, rfl⟩
      · exact .inr ⟨fun e' => hn (e' ▸ e), e⟩
theorem step_of_sup {a b : List Int} (ha : RightP a) (hb : RightP b) (hs : ∀ x ∈ b, x ∈ a) (hl : a.length ≤ b.length + 1) : StepP a b := by
  by_cases e : a.length ≤ b.length
  · exact .inl (sorted_ext ha.sorted hb.sorted fun z => ⟨nodup_back hb.nodup hs e z, hs z⟩)
  · obtain ⟨id, hid, hn⟩ := exists_new ha.nodup (show b.length < a.length by omega)
    have hr := ha.range id hid
    have hh : hasB a id = true := hasB_mem.2 hid
    have h0 : changeE a (!hasB a id) id = 0 := by
      rw [changeE_zero]
      refine ⟨rightB_of ha, hr.1, hr.2, rfl, fun h => ?_, fun _ => ?_⟩
      · rw [hh] at h; cases h
      · have := hb.pos; omega
    refine .inr ⟨id, hr.1, hr.2, h0, sorted_ext (change_sorted h0) hb.sorted fun z => ?_⟩
    rw [change_mem h0, hh]
    constructor
    · rintro (⟨rfl, h⟩ | ⟨hz, h⟩)
      · cases h
      · have hnd : (id :: b).Nodup := List.nodup_cons.2 ⟨hn, hb.nodup⟩
        have := nodup_back hnd (fun x hx => (List.mem_cons.1 hx).elim (fun e => e ▸ hid) (hs x)) (by simp; omega) z h
        exact (List.mem_cons.1 this).resolve_left hz
    · intro hz
      exact .inr ⟨fun e => hn (e ▸ hz), hs z hz⟩
theorem near_of_step {a b : List Int} (ha : RightP a) (h : StepP a b) : if b.length < a.length then nearB b a = true else nearB a b = true := by
  rcases h with rfl | ⟨id, h1, h2, h3, rfl⟩
  · rw [if_neg (by omega), near_iff]
    exact ⟨fun _ h => h, by omega⟩
  · have hl := change_len h3
    have hp := ha.pos
    cases hh : hasB a id with
    | false =>
      rw [hh] at h3 hl
      simp at hl
      rw [if_neg (by simp; omega), near_iff]
      refine ⟨fun x hx => (change_mem h3).2 (.inr ⟨fun e => ?_, hx⟩), by simp; omega⟩
      subst e
      rw [hasB_mem.2 hx] at hh
      cases hh
    | true =>
      rw [hh] at h3 hl
      simp at hl
      rw [if_pos (by simp; omega), near_iff]
      refine ⟨fun x hx => ?_, by simp; omega⟩
      have := (change_mem h3).1 hx
      simp at this
      exact this.2
theorem beside_iff {a b : List Int} (ha : RightP a) (hb : RightP b) : (if b.length < a.length then nearB b a else nearB a b) = true ↔ StepP a b := by
  constructor
  · intro h
    split at h
    · exact step_of_sup ha hb (near_iff.1 h).1 (near_iff.1 h).2
    · exact step_of_sub ha hb (near_iff.1 h).1 (near_iff.1 h).2
  · intro h
    have := near_of_step ha h
    split <;> simp_all
theorem step_symm {a b : List Int} (ha : RightP a) (hb : RightP b) (h : StepP a b) : StepP b a := by
  have h1 := near_of_step ha h
  split at h1
  · exact step_of_sub hb ha (near_iff.1 h1).1 (near_iff.1 h1).2
  · exact step_of_sup hb ha (near_iff.1 h1).1 (near_iff.1 h1).2
theorem refBeside_iff {a b : List Int} : (sameB a b || ints16.any fun id => decide (changeE a (!hasB a id) id = 0) && sameB (refL a (!hasB a id) id) b) = true ↔ StepP a b := by
  unfold StepP sameB
  rw [Bool.or_eq_true, decide_eq_true_eq, List.any_eq_true]
  constructor
  · rintro (h | ⟨id, hid, h⟩)
    · exact .inl h
    · rw [Bool.and_eq_true, decide_eq_true_eq, decide_eq_true_eq] at h
      have := mem_ints16.1 hid
      exact .inr ⟨id, this.1, this.2, h.1, (change_ref h.1).trans h.2⟩
  · rintro (h | ⟨id, h1, h2, h3, h4⟩)
    · exact .inl h
    · exact .inr ⟨id, mem_ints16.2 ⟨h1, h2⟩, by rw [Bool.and_eq_true, decide_eq_true_eq, decide_eq_true_eq]; exact ⟨h3, (change_ref h3).symm.trans h4⟩⟩
theorem beside_ref (a b : List Int) : besideB a b = refBesideB a b := by
  unfold besideB refBesideB
  cases ha : rightB a with
  | false => rfl
  | true =>
    cases hb : rightB b with
    | false => rfl
    | true =>
      simp only [Bool.true_and]
      rw [Bool.eq_iff_iff, beside_iff (rightP_of ha) (rightP_of hb), refBeside_iff]
theorem beside_symm (a b : List Int) : besideB b a = besideB a b := by
  unfold besideB
  cases ha : rightB a with
  | false => cases rightB b <;> rfl
  | true =>
    cases hb : rightB b with
    | false => rfl
    | true =>
      simp only [Bool.true_and]
      rw [Bool.eq_iff_iff, beside_iff (rightP_of hb) (rightP_of ha), beside_iff (rightP_of ha) (rightP_of hb)]
      exact ⟨step_symm (rightP_of hb) (rightP_of ha), step_symm (rightP_of ha) (rightP_of hb)⟩
theorem beside_change {l : List Int} {add : Bool} {id : Int} (h : changeE l add id = 0) : besideB l (changeL l add id) = true := by
  have h' := changeE_zero.1 h
  unfold besideB
  rw [h'.1, rightB_of (change_right h), Bool.true_and, Bool.true_and, beside_iff (rightP_of h'.1) (change_right h)]
  have e : add = !hasB l id := h'.2.2.2.1
  exact .inr ⟨id, h'.2.1, h'.2.2.1, by rw [← e]; exact h, by rw [← e]⟩
end Go.Proofs.Ytopcgnilajmnhaa
