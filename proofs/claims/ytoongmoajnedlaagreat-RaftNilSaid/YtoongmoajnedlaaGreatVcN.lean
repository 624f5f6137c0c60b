/-
  What a quorum reaches: Nth of the program and of the reference (as at layer 11).
-/
import Derived.Test.YtoongmoajnedlaaGreatSort
import Derived.Laws.CopyOwn
import Derived.OwnWalk
import Derived.Deep.LoopGhost
import Derived.Deep.CutBlock
import Derived.Deep.DeepCutAuto
set_option linter.unusedVariables false
set_option linter.unusedSimpArgs false
namespace Go.Proofs.YtoongmoajnedlaaGreat
open Go.RowKit

theorem ints_at {w : World} {A : Option Addr} {is : List Int} (h : Sees w A (is.map i64v)) (k : Nat) (hk : k < is.length) : ∃ ad, A = some ad ∧ w.cell? (ad.add k) = some (.int .i64 is[k]) := by
  exact h k _ (by simp [i64v, hk])
theorem getD_at {l : List Int} {k : Nat} (hk : k < l.length) : l.getD k 0 = l[k] := by simp [List.getD_eq_getElem?_getD, hk]
theorem forall_lt {p : Nat → Prop} {k : Nat} : (∀ i, i < k + 1 → p i) ↔ (∀ i, i < k → p i) ∧ p k :=
  ⟨fun h => ⟨fun i hi => h i (by omega), h k (by omega)⟩, fun h i hi => by
    by_cases e : i = k
    · exact e ▸ h.2
    · exact h.1 i (by omega)⟩
def quorumN (n : Nat) : Int := ((n / 2 + 1 : Nat) : Int)
theorem quorum_any (A : Option Addr) (n c : Nat) (w : World) (hl : n ≤ 140737488355328) : Calls Tryz.prog 184 #[.slice A n c] w fun e w' => e = .returned (.int .i64 (quorumN n)) ∧ w = w' := by
  go_enter Tryz.func184, Tryz.ntmps184
  go_wp2
  go_ret
  exact ⟨by unfold quorumN; simp, rfl⟩
theorem mem_sortL {l : List Int} {z : Int} : z ∈ sortL l ↔ z ∈ l := by simp [sortL]
theorem sortL_le (l : List Int) : (sortL l).Pairwise (· ≤ ·) := by
  have := List.pairwise_mergeSort (le := fun x y : Int => decide (x ≤ y)) (fun a b c h1 h2 => by simp at *; omega) (fun a b => by simp; omega) l
  exact this.imp fun h => by simpa using h
theorem sort_own_at {base : Nat} (A : Option Addr) (n : Nat) (is : List Int) (c : Nat) (w : World) (hn : is.length = n) (h : w.ownsRow base 3 1 (.slice A n c) n (is.map i64v)) (hl : n ≤ 140737488355328) :
    Calls Tryz.prog 167 #[.slice A n c] w fun e w' => e = .returned (.tuple #[]) ∧ w'.ownsRow base 3 1 (.slice A n c) n ((sortL is).map i64v) ∧ Outside (fun b => (Value.slice A n c).ownBlock = some b) w w' := by
  subst hn
  exact sort_own A is c w h hl
theorem infoInt : (Tryz.prog.info? 3).map (fun i => (i.zero, i.size, i.bytes)) = some (some (.int .i64 0), 1, 8) := by kernel_rfl
theorem ints_one (is : List Int) : ∀ u ∈ is.map i64v, u.oneCell' = true := by
  intro u hu
  obtain ⟨b, _, rfl⟩ := List.mem_map.1 hu
  rfl


/-- n numbers: those that there are, and noughts. -/
def pad (n : Nat) (of : List Int) : List Int := of.take n ++ List.replicate (n - of.length) 0
theorem pad_len (n : Nat) (of : List Int) : (pad n of).length = n := by simp [pad]; omega
theorem pad_get {n : Nat} {of : List Int} {k : Nat} (hk : k < n) : (pad n of)[k]? = some (of.getD k 0) := by
  unfold pad
  by_cases h : k < of.length
  · rw [List.getElem?_append_left (by simp; omega), List.getElem?_take, if_pos hk, List.getD_eq_getElem?_getD, List.getElem?_eq_getElem h]
    rfl
  · rw [List.getElem?_append_right (by simp; omega), List.getElem?_replicate, if_pos (by simp; omega), List.getD_eq_getElem?_getD, List.getElem?_eq_none (by omega)]
    rfl
theorem pad_full {of : List Int} : pad of.length of = of := by simp [pad]
def quorN (n : Nat) : Nat := n / 2 + 1
def nthN (P : List Int) : Int := (sortL P).getD (P.length - quorN P.length) 0
/-- How many reach t. -/
def cntN (P : List Int) (t : Int) : Nat := (P.filter fun x => decide (t ≤ x)).length
theorem cnt_perm {P Q : List Int} (h : P.Perm Q) (t : Int) : cntN P t = cntN Q t := (h.filter _).length_eq
theorem cnt_le (P : List Int) (t : Int) : cntN P t ≤ P.length := List.length_filter_le _ _
theorem cnt_append (P Q : List Int) (t : Int) : cntN (P ++ Q) t = cntN P t + cntN Q t := by simp [cntN]
theorem cnt_all {P : List Int} {t : Int} (h : ∀ x ∈ P, t ≤ x) : cntN P t = P.length := by
  unfold cntN
  rw [List.length_filter_eq_length_iff]
  exact fun x hx => decide_eq_true (h x hx)
theorem cnt_none {P : List Int} {t : Int} (h : ∀ x ∈ P, x < t) : cntN P t = 0 := by
  unfold cntN
  rw [List.length_eq_zero_iff, List.filter_eq_nil_iff]
  intro x hx
  have := h x hx
  simp
  omega
/-- What stands at place k of a list in order is reached by all behind it. -/
theorem sorted_cnt {s : List Int} (hs : s.Pairwise (· ≤ ·)) {k : Nat} (hk : k < s.length) (t : Int) : t ≤ s[k] ↔ s.length - k ≤ cntN s t := by
  have hsplit : s = s.take k ++ s.drop k := (List.take_append_drop k s).symm
  have hc : cntN s t = cntN (s.take k) t + cntN (s.drop k) t := by rw [← cnt_append, ← hsplit]
  have hp := List.pairwise_iff_getElem.1 hs
  constructor
  · intro h
    rw [hc, cnt_all (P := s.drop k), List.length_drop]
    · omega
    · intro x hx
      obtain ⟨i, hi, rfl⟩ := List.getElem_of_mem hx
      rw [List.getElem_drop]
      rcases Nat.eq_zero_or_pos i with h0 | h0
      · subst h0; exact h
      · have := hp k (k + i) hk (by simp at hi; omega) (by omega)
        omega
  · intro h
    refine Classical.byContradiction fun hn => ?_
    have h1 : cntN (s.take (k + 1)) t = 0 := cnt_none fun x hx => by
      obtain ⟨i, hi, rfl⟩ := List.getElem_of_mem hx
      rw [List.getElem_take]
      simp at hi
      rcases Nat.lt_or_ge i k with h2 | h2
      · have := hp i k (by omega) hk h2
        omega
      · obtain rfl : i = k := by omega
        omega
    have h2 : cntN s t = cntN (s.take (k + 1)) t + cntN (s.drop (k + 1)) t := by rw [← cnt_append, List.take_append_drop]
    have h3 := cnt_le (s.drop (k + 1)) t
    rw [List.length_drop] at h3
    omega
theorem quor_le {n : Nat} (h : 0 < n) : quorN n ≤ n ∧ 0 < quorN n := by unfold quorN; omega
theorem nth_iff {P : List Int} (h : 0 < P.length) (t : Int) : t ≤ nthN P ↔ quorN P.length ≤ cntN P t := by
  have hq := quor_le h
  have hk : P.length - quorN P.length < (sortL P).length := by rw [sortL_length]; omega
  unfold nthN
  have hpm : cntN (sortL P) t = cntN P t := cnt_perm (List.mergeSort_perm P _) t
  rw [getD_at hk, sorted_cnt (sortL_le P) hk t, sortL_length, hpm]
  omega
theorem nth_unique {P : List Int} (h : 0 < P.length) {b : Int} (hb : quorN P.length ≤ cntN P b) (hm : ∀ t, quorN P.length ≤ cntN P t → t ≤ b) : nthN P = b := by
  have h1 := (nth_iff h b).2 hb
  have h2 := hm _ ((nth_iff h (nthN P)).1 (Int.le_refl _))
  omega
theorem nth_mem {P : List Int} (h : 0 < P.length) : nthN P ∈ P := by
  have hq := quor_le h
  have hk : P.length - quorN P.length < (sortL P).length := by rw [sortL_length]; omega
  unfold nthN
  rw [getD_at hk]
  exact mem_sortL.1 (List.getElem_mem hk)
theorem cnt_mono {P : List Int} {t u : Int} (h : t ≤ u) : cntN P u ≤ cntN P t := by
  unfold cntN
  rw [← List.countP_eq_length_filter, ← List.countP_eq_length_filter]
  exact List.countP_mono_left fun x _ hx => by simp at *; omega
/-! ### the reference's way -/
/-- One number more has been looked at. -/
def refStep (q : Nat) (P : List Int) (s : Int × Bool) (v : Int) : Int × Bool := if q ≤ cntN P v ∧ (s.2 = false ∨ s.1 < v) then (v, true) else s
def refFold (P : List Int) (k : Nat) : Int × Bool := (P.take k).foldl (refStep (quorN P.length) P) (0, false)
theorem refFold_succ (P : List Int) {k : Nat} (hk : k < P.length) : refFold P (k + 1) = refStep (quorN P.length) P (refFold P k) P[k] := by
  unfold refFold
  rw [List.take_succ_eq_append_getElem hk, List.foldl_append]
  rfl
theorem refFold_inv (P : List Int) : ∀ k, k ≤ P.length → ((refFold P k).2 = true → quorN P.length ≤ cntN P (refFold P k).1) ∧ (∀ v ∈ P.take k, quorN P.length ≤ cntN P v → (refFold P k).2 = true ∧ v ≤ (refFold P k).1) := by
  intro k
  induction k with
  | zero =>
    intro _
    exact ⟨fun h => (by cases h), fun v hv => by simp at hv⟩
  | succ k ih =>
    intro hk
    have hk' : k < P.length := by omega
    obtain ⟨i1, i2⟩ := ih (by omega)
    rw [refFold_succ P hk']
    unfold refStep
    split
    · rename_i hc
      refine ⟨fun _ => hc.1, fun v hv hq => ⟨rfl, ?_⟩⟩
      rw [List.take_succ_eq_append_getElem hk', List.mem_append] at hv
      rcases hv with hv | hv
      · have := i2 v hv hq
        rcases hc.2 with h | h
        · rw [this.1] at h; cases h
        · exact Int.le_of_lt (Int.lt_of_le_of_lt this.2 h)
      · simp at hv
        exact Int.le_of_eq hv
    · rename_i hc
      refine ⟨i1, fun v hv hq => ?_⟩
      rw [List.take_succ_eq_append_getElem hk', List.mem_append] at hv
      rcases hv with hv | hv
      · exact i2 v hv hq
      · simp at hv
        subst hv
        have h1 : ¬ ((refFold P k).2 = false ∨ (refFold P k).1 < P[k]) := fun h => hc ⟨hq, h⟩
        rw [not_or] at h1
        exact ⟨by simpa using h1.1, Int.not_lt.1 h1.2⟩
theorem refFold_all (P : List Int) (h : 0 < P.length) : (refFold P P.length).1 = nthN P := by
  obtain ⟨i1, i2⟩ := refFold_inv P P.length (Nat.le_refl _)
  rw [List.take_length] at i2
  have h1 := i2 (nthN P) (nth_mem h) ((nth_iff h _).1 (Int.le_refl _))
  exact (nth_unique h (i1 h1.1) fun t ht => Int.le_trans ((nth_iff h t).2 ht) h1.2).symm
/-- What both answer. -/
def nthV (n : Nat) (of : List Int) : Int := if n = 0 then 0 else nthN (pad n of)


theorem quorum_at (A : Option Addr) (n c q : Nat) (w : World) (hl : n ≤ 140737488355328) (hq : quorN n = q) : Calls Tryz.prog 184 #[.slice A n c] w fun e w' => e = .returned (.int .i64 (q : Int)) ∧ w = w' := by
  subst hq
  exact quorum_any A n c w hl
/-- A row whose cells are all known. -/
theorem own_cells {w : World} {base n g : Nat} {xs : List Value} (h : w.ownsRow base 3 1 (.slice (some ⟨g, 0, none⟩) n n) n xs) : w.heap[g]? = some (.cells xs.toArray 3 (0, 0)) := by
  obtain ⟨h1, hh⟩ := h
  rcases hh with ⟨hv, _⟩ | ⟨g', cap, cur, hv, _, hg, _, _, hs, ht⟩
  · cases hv
  · cases hv
    rw [hg]
    have : cur = xs.toArray := by
      rw [← ht, Nat.mul_one, List.take_of_length_le (by simp; omega)]
    rw [this]
theorem own_of_cells {w : World} {base n g : Nat} {xs : List Value} (hb : base ≤ g) (hg : w.heap[g]? = some (.cells xs.toArray 3 (0, 0))) (hn : xs.length = n) (hm : n ≤ maxLen) : w.ownsRow base 3 1 (.slice (some ⟨g, 0, none⟩) n n) n xs :=
  ⟨by rw [hn, Nat.mul_one], .inr ⟨g, n, _, rfl, hb, hg, Nat.le_refl _, hm, by simp [hn], by rw [Nat.mul_one]; exact List.take_of_length_le (Nat.le_of_eq hn)⟩⟩
theorem splice_pad (n : Nat) (of : List Int) : splice (List.replicate n (Value.int .i64 0)) 0 ((of.take n).map i64v) = (pad n of).map i64v := by
  unfold splice pad
  rw [List.take_zero, List.nil_append, Nat.zero_add, List.map_append]
  congr 1
  rw [List.drop_replicate, List.map_replicate]
  simp [i64v]
  omega
set_option maxHeartbeats 1000000 in
theorem nth_any (A B : Option Addr) (n : Nat) (of : List Int) (c d : Nat) (w : World) (hd : of.length ≤ d) (hn : n * 8 ≤ 140737488355328) (hl : of.length ≤ 140737488355328) (hB : Sees w B (of.map i64v)) :
    Calls Tryz.prog 166 #[.slice A n c, .slice B of.length d] w fun e w' => e = .returned (.int .i64 (nthV n of)) ∧ Below w.heap.size w w' := by
  have HB := Lib.hid hB
  clear hB
  by_cases h0 : n = 0
  · subst h0
    go_enter Tryz.func166, Tryz.ntmps166
    go_wp2
    go_ret
    exact ⟨rfl, Below.refl _ _⟩
  · have hn0 : ((n : Int) == 0) = false := by simp; omega
    obtain ⟨q, hq⟩ : ∃ q, quorN n = q := ⟨_, rfl⟩
    have hqn := quor_le (show 0 < n by omega)
    rw [hq] at hqn
    obtain ⟨hq1, hq2⟩ := hqn
    have HQ := Lib.hid hq
    have HV : Hid (nthV n of = (sortL (pad n of)).getD (n - q) 0) := Lib.hid (by unfold nthV nthN; rw [if_neg h0, pad_len, hq])
    have HPL := Lib.hid (pad_len n of)
    have HSP := Lib.hid (splice_pad n of)
    obtain ⟨P, hP⟩ : ∃ P, pad n of = P := ⟨_, rfl⟩
    rw [hP] at HV HPL HSP
    obtain ⟨i0, hi0, hz0, hz1, hz2⟩ := info_three infoInt
    have hN : n ≤ maxLen := by simp only [maxLen]; omega
    have hBN : i0.bytes * n ≤ 281474976710656 := by rw [hz2]; omega
    have HI := Lib.hid hi0
    have hinfo1 : (Tryz.prog.info? 3).map (·.size) = some 1 := by kernel_rfl
    have HZ2 := Lib.hid hz2
    have HRP : Hid ((madeCells (Value.int .i64 0).cells (n * 1)).toList = List.replicate n (.int .i64 0)) := Lib.hid (by rw [Nat.mul_one]; exact toList_madeCells_one _ _)
    clear hq hP h0 hi0 hz2
    go_enter Tryz.func166, Tryz.ntmps166
    go_wp2_with (first
      | (refine wpList_make_full _ rfl (.tmp 10) (.tmp 10) 23 rfl w.heap.size 3 i0 (.int .i64 0) 1 Tryz.underlying23 HI.out hz0 hz1 .i64 .i64 (n : Int) (n : Int) n rfl rfl rfl rfl hBN hN (Nat.le_refl _) ?_; intro w1 hown1' hg1; rw [HRP.out] at hown1'; have HO1 := Lib.hid hown1'; have hb1 : Below w.heap.size w w1 := (Below.refl _ _).grown hg1 (Nat.le_refl _) (fun k hk => by cases hk); have HB1 := Lib.hid hb1; clear hown1' hg1 hb1)
      | (refine wpList_copy_splice rfl (.tmp 12) (.tmp 13) 23 23 rfl 3 Tryz.underlying23 hinfo1 (some ⟨w.heap.size, 0, none⟩) B n n of.length d rfl rfl w.heap.size 0 (List.replicate n (.int .i64 0)) 3 (own_cells HO1.out) ((of.take n).map i64v) (by rw [List.length_map, List.length_take]; exact Nat.min_comm _ _) (fun hp => ⟨rfl, by
          obtain ⟨ad, e, _⟩ := ((HB.out.below HB1.out).take n) 0 _ (by rw [← List.map_take]; exact List.getElem?_eq_getElem hp)
          refine ⟨ad, e, fun j v hv => ?_⟩
          obtain ⟨ad', e', hc⟩ := ((HB.out.below HB1.out).take n) j v (by rw [← List.map_take]; exact hv)
          rw [e] at e'
          cases e'
          exact hc⟩) (by rw [List.length_map, List.length_take, List.length_replicate]; omega) (ints_one _) w.heap.size w HB1.out (Nat.le_refl _) ?_; intro w2 hc2 hb2; have hc2' := hc2.out; rw [HSP.out] at hc2'; have HO2 := Lib.hid (own_of_cells (base := w.heap.size) (Nat.le_refl _) hc2' (by rw [List.length_map]; exact HPL.out) hN); have HB2 := Lib.hid hb2; clear hc2 hc2' hb2)
      | (go_at_call 167; refine (sort_own_at (some ⟨w.heap.size, 0, none⟩) n P n _ HPL.out HO2.out (by omega)).mono ?_; rintro e w3 ⟨rfl, hown3, ho3⟩; have hb3 := HB2.out.trans (ho3.below (fun b hb => (own_block_ge HO2.out b hb).1) HB2.out.size); have HB3 := Lib.hid hb3; have hcell := (ints_at (sees_own' hown3).2.2.2 (n - q) (by rw [sortL_length, HPL.out]; omega)); obtain ⟨ad, e, hcell⟩ := hcell; cases e; rw [add_base] at hcell; clear hb3 hown3 ho3)
      | (go_at_call 184; refine (quorum_at A n c q _ (by omega) HQ.out).mono ?_; rintro e w' ⟨rfl, rfl⟩)
      | fail)
    go_ret
    refine ⟨?_, HB3.out⟩
    rw [HV.out, getD_at (by rw [sortL_length, HPL.out]; omega)]
    rfl


end Go.Proofs.YtoongmoajnedlaaGreat
