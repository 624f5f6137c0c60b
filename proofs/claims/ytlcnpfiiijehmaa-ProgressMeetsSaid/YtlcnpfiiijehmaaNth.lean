/-
  What a quorum reaches: Nth of the program and of the reference (as at layer 11).
-/
import Derived.Test.YtlcnpfiiijehmaaSort
import Derived.Laws.CopyOwn
import Derived.OwnWalk
import Derived.Deep.LoopGhost
import Derived.Deep.CutBlock
import Derived.Deep.DeepCutAuto
set_option linter.unusedVariables false
set_option linter.unusedSimpArgs false
namespace Go.Proofs.Ytlcnpfiiijehmaa
open Go.RowKit

theorem ints_at {w : World} {A : Option Addr} {is : List Int} (h : Sees w A (is.map i64v)) (k : Nat) (hk : k < is.length) : ∃ ad, A = some ad ∧ w.cell? (ad.add k) = some (.int .i64 is[k]) := by
  exact h k _ (by simp [i64v, hk])
theorem getD_at {l : List Int} {k : Nat} (hk : k < l.length) : l.getD k 0 = l[k] := by simp [List.getD_eq_getElem?_getD, hk]
theorem forall_lt {p : Nat → Prop} {k : Nat} : (∀ i, i < k + 1 → p i) ↔ (∀ i, i < k → p i) ∧ p k :=
  ⟨fun h => ⟨fun i hi => h i (by omega), h k (by omega)⟩, fun h i hi => by
    by_cases e : i = k
    · exact e ▸ h.2
    · exact h.1 i (by omega)⟩
def quorumN (n : Nat) : Int := ((n / 2 + 1 : Nat) : Int)
theorem quorum_any (A : Option Addr) (n c : Nat) (w : World) (hl : n ≤ 140737488355328) : Calls Try.prog 13 #[.slice A n c] w fun e w' => e = .returned (.int .i64 (quorumN n)) ∧ w = w' := by
  go_enter Try.func13, Try.ntmps13
  go_wp2
  go_ret
  exact ⟨by unfold quorumN; simp, rfl⟩
theorem refquorum_any (A : Option Addr) (n c : Nat) (w : World) (hl : n ≤ 140737488355328) : Calls Try.prog 49 #[.slice A n c] w fun e w' => e = .returned (.int .i64 (quorumN n)) ∧ w = w' := by
  go_enter Try.func49, Try.ntmps49
  go_wp2
  go_ret
  exact ⟨by unfold quorumN; simp, rfl⟩
theorem mem_sortL {l : List Int} {z : Int} : z ∈ sortL l ↔ z ∈ l := by simp [sortL]
theorem sortL_le (l : List Int) : (sortL l).Pairwise (· ≤ ·) := by
  have := List.pairwise_mergeSort (le := fun x y : Int => decide (x ≤ y)) (fun a b c h1 h2 => by simp at *; omega) (fun a b => by simp; omega) l
  exact this.imp fun h => by simpa using h
theorem sort_own_at {base : Nat} (A : Option Addr) (n : Nat) (is : List Int) (c : Nat) (w : World) (hn : is.length = n) (h : w.ownsRow base 3 1 (.slice A n c) n (is.map i64v)) (hl : n ≤ 140737488355328) :
    Calls Try.prog 47 #[.slice A n c] w fun e w' => e = .returned (.tuple #[]) ∧ w'.ownsRow base 3 1 (.slice A n c) n ((sortL is).map i64v) ∧ Outside (fun b => (Value.slice A n c).ownBlock = some b) w w' := by
  subst hn
  exact sort_own A is c w h hl
theorem infoInt : (Try.prog.info? 3).map (fun i => (i.zero, i.size, i.bytes)) = some (some (.int .i64 0), 1, 8) := by kernel_rfl
theorem ints_one (is : List Int) : ∀ u ∈ is.map i64v, u.oneCell' = true := by
  intro u hu
  obtain ⟨b, _, rfl⟩ := List.mem_map.1 hu
  rfl


/-- n numbers: those that there are, and noughts. -/
def pad (n : Nat) (of : List Int) : List Int := of.take n ++ List.replicate (n - of.length) 0
theorem pad_len (n : Nat) (of : List Int) : (pad n of).length = n := by simp [pad]; omega
theorem pad_get {n : Nat} {of : List Int} {k : Nat} (hk : k < n) : (pad n of)[k]? = some (of.getD k 0) := by
  unfold pad
  by_cases h : k < of.length
  · rw [List.getElem?_append_left (by simp; omega), List.getElem?_take, if_pos hk, List.getD_eq_getElem?_getD, List.getElem?_eq_getElem h]
    rfl
  · rw [List.getElem?_append_right (by simp; omega), List.getElem?_replicate, if_pos (by simp; omega), List.getD_eq_getElem?_getD, List.getElem?_eq_none (by omega)]
    rfl
theorem pad_full {of : List Int} : pad of.length of = of := by simp [pad]
def quorN (n : Nat) : Nat := n / 2 + 1
def nthN (P : List Int) : Int := (sortL P).getD (P.length - quorN P.length) 0
/-- How many reach t. -/
def cntN (P : List Int) (t : Int) : Nat := (P.filter fun x => decide (t ≤ x)).length
theorem cnt_perm {P Q : List Int} (h : P.Perm Q) (t : Int) : cntN P t = cntN Q t := (h.filter _).length_eq
theorem cnt_le (P : List Int) (t : Int) : cntN P t ≤ P.length := List.length_filter_le _ _
theorem cnt_append (P Q : List Int) (t : Int) : cntN (P ++ Q) t = cntN P t + cntN Q t := by simp [cntN]
theorem cnt_all {P : List Int} {t : Int} (h : ∀ x ∈ P, t ≤ x) : cntN P t = P.length := by
  unfold cntN
  rw [List.length_filter_eq_length_iff]
  exact fun x hx => decide_eq_true (h x hx)
theorem cnt_none {P : List Int} {t : Int} (h : ∀ x ∈ P, x < t) : cntN P t = 0 := by
  unfold cntN
  rw [List.length_eq_zero_iff, List.filter_eq_nil_iff]
  intro x hx
  have := h x hx
  simp
  omega
/-- What stands at place k of a list in order is reached by all behind it. -/
theorem sorted_cnt {s : List Int} (hs : s.Pairwise (· ≤ ·)) {k : Nat} (hk : k < s.length) (t : Int) : t ≤ s[k] ↔ s.length - k ≤ cntN s t := by
  have hsplit : s = s.take k ++ s.drop k := (List.take_append_drop k s).symm
  have hc : cntN s t = cntN (s.take k) t + cntN (s.drop k) t := by rw [← cnt_append, ← hsplit]
  have hp := List.pairwise_iff_getElem.1 hs
  constructor
  · intro h
    rw [hc, cnt_all (P := s.drop k), List.length_drop]
    · omega
    · intro x hx
      obtain ⟨i, hi, rfl⟩ := List.getElem_of_mem hx
      rw [List.getElem_drop]
      rcases Nat.eq_zero_or_pos i with h0 | h0
      · subst h0; exact h
      · have := hp k (k + i) hk (by simp at hi; omega) (by omega)
        omega
  · intro h
    refine Classical.byContradiction fun hn => ?_
    have h1 : cntN (s.take (k + 1)) t = 0 := cnt_none fun x hx => by
      obtain ⟨i, hi, rfl⟩ := List.getElem_of_mem hx
      rw [List.getElem_take]
      simp at hi
      rcases Nat.lt_or_ge i k with h2 | h2
      · have := hp i k (by omega) hk h2
        omega
      · obtain rfl : i = k := by omega
        omega
    have h2 : cntN s t = cntN (s.take (k + 1)) t + cntN (s.drop (k + 1)) t := by rw [← cnt_append, List.take_append_drop]
    have h3 := cnt_le (s.drop (k + 1)) t
    rw [List.length_drop] at h3
    omega
theorem quor_le {n : Nat} (h : 0 < n) : quorN n ≤ n ∧ 0 < quorN n := by unfold quorN; omega
theorem nth_iff {P : List Int} (h : 0 < P.length) (t : Int) : t ≤ nthN P ↔ quorN P.length ≤ cntN P t := by
  have hq := quor_le h
  have hk : P.length - quorN P.length < (sortL P).length := by rw [sortL_length]; omega
  unfold nthN
  have hpm : cntN (sortL P) t = cntN P t := cnt_perm (List.mergeSort_perm P _) t
  rw [getD_at hk, sorted_cnt (sortL_le P) hk t, sortL_length, hpm]
  omega
theorem nth_unique {P : List Int} (h : 0 < P.length) {b : Int} (hb : quorN P.length ≤ cntN P b) (hm : ∀ t, quorN P.length ≤ cntN P t → t ≤ b) : nthN P = b := by
  have h1 := (nth_iff h b).2 hb
  have h2 := hm _ ((nth_iff h (nthN P)).1 (Int.le_refl _))
  omega
theorem nth_mem {P : List Int} (h : 0 < P.length) : nthN P ∈ P := by
  have hq := quor_le h
  have hk : P.length - quorN P.length < (sortL P).length := by rw [sortL_length]; omega
  unfold nthN
  rw [getD_at hk]
  exact mem_sortL.1 (List.getElem_mem hk)
theorem cnt_mono {P : List Int} {t u : Int} (h : t ≤ u) : cntN P u ≤ cntN P t := by
  unfold cntN
  rw [← List.countP_eq_length_filter, ← List.countP_eq_length_filter]
  exact List.countP_mono_left fun x _ hx => by simp at *; omega
/-! ### the reference's way -/
/-- One number more has been looked at. -/
def refStep (q : Nat) (P : List Int) (s : Int × Bool) (v : Int) : Int × Bool := if q ≤ cntN P v ∧ (s.2 = false ∨ s.1 < v) then (v, true) else s
def refFold (P : List Int) (k : Nat) : Int × Bool := (P.take k).foldl (refStep (quorN P.length) P) (0, false)
theorem refFold_succ (P : List Int) {k : Nat} (hk : k < P.length) : refFold P (k + 1) = refStep (quorN P.length) P (refFold P k) P[k] := by
  unfold refFold
  rw [List.take_succ_eq_append_getElem hk, List.foldl_append]
  rfl
theorem refFold_inv (P : List Int) : ∀ k, k ≤ P.length → ((refFold P k).2 = true → quorN P.length ≤ cntN P (refFold P k).1) ∧ (∀ v ∈ P.take k, quorN P.length ≤ cntN P v → (refFold P k).2 = true ∧ v ≤ (refFold P k).1) := by
  intro k
  induction k with
  | zero =>
    intro _
    exact ⟨fun h => (by cases h), fun v hv => by simp at hv⟩
  | succ k ih =>
    intro hk
    have hk' : k < P.length := by omega
    obtain ⟨i1, i2⟩ := ih (by omega)
    rw [refFold_succ P hk']
    unfold refStep
    split
    · rename_i hc
      refine ⟨fun _ => hc.1, fun v hv hq => ⟨rfl, ?_⟩⟩
      rw [List.take_succ_eq_append_getElem hk', List.mem_append] at hv
      rcases hv with hv | hv
      · have := i2 v hv hq
        rcases hc.2 with h | h
        · rw [this.1] at h; cases h
        · exact Int.le_of_lt (Int.lt_of_le_of_lt this.2 h)
      · simp at hv
        exact Int.le_of_eq hv
    · rename_i hc
      refine ⟨i1, fun v hv hq => ?_⟩
      rw [List.take_succ_eq_append_getElem hk', List.mem_append] at hv
      rcases hv with hv | hv
      · exact i2 v hv hq
      · simp at hv
        subst hv
        have h1 : ¬ ((refFold P k).2 = false ∨ (refFold P k).1 < P[k]) := fun h => hc ⟨hq, h⟩
        rw [not_or] at h1
        exact ⟨by simpa using h1.1, Int.not_lt.1 h1.2⟩
theorem refFold_all (P : List Int) (h : 0 < P.length) : (refFold P P.length).1 = nthN P := by
  obtain ⟨i1, i2⟩ := refFold_inv P P.length (Nat.le_refl _)
  rw [List.take_length] at i2
  have h1 := i2 (nthN P) (nth_mem h) ((nth_iff h _).1 (Int.le_refl _))
  exact (nth_unique h (i1 h1.1) fun t ht => Int.le_trans ((nth_iff h t).2 ht) h1.2).symm
/-- What both answer. -/
def nthV (n : Nat) (of : List Int) : Int := if n = 0 then 0 else nthN (pad n of)


theorem quorum_at (A : Option Addr) (n c q : Nat) (w : World) (hl : n ≤ 140737488355328) (hq : quorN n = q) : Calls Try.prog 13 #[.slice A n c] w fun e w' => e = .returned (.int .i64 (q : Int)) ∧ w = w' := by
  subst hq
  exact quorum_any A n c w hl
theorem refquorum_at (A : Option Addr) (n c q : Nat) (w : World) (hl : n ≤ 140737488355328) (hq : quorN n = q) : Calls Try.prog 49 #[.slice A n c] w fun e w' => e = .returned (.int .i64 (q : Int)) ∧ w = w' := by
  subst hq
  exact refquorum_any A n c w hl
/-- A row whose cells are all known. -/
theorem own_cells {w : World} {base n g : Nat} {xs : List Value} (h : w.ownsRow base 3 1 (.slice (some ⟨g, 0, none⟩) n n) n xs) : w.heap[g]? = some (.cells xs.toArray 3 (0, 0)) := by
  obtain ⟨h1, hh⟩ := h
  rcases hh with ⟨hv, _⟩ | ⟨g', cap, cur, hv, _, hg, _, _, hs, ht⟩
  · cases hv
  · cases hv
    rw [hg]
    have : cur = xs.toArray := by
      rw [← ht, Nat.mul_one, List.take_of_length_le (by simp; omega)]
    rw [this]
theorem own_of_cells {w : World} {base n g : Nat} {xs : List Value} (hb : base ≤ g) (hg : w.heap[g]? = some (.cells xs.toArray 3 (0, 0))) (hn : xs.length = n) (hm : n ≤ maxLen) : w.ownsRow base 3 1 (.slice (some ⟨g, 0, none⟩) n n) n xs :=
  ⟨by rw [hn, Nat.mul_one], .inr ⟨g, n, _, rfl, hb, hg, Nat.le_refl _, hm, by simp [hn], by rw [Nat.mul_one]; exact List.take_of_length_le (Nat.le_of_eq hn)⟩⟩
theorem splice_pad (n : Nat) (of : List Int) : splice (List.replicate n (Value.int .i64 0)) 0 ((of.take n).map i64v) = (pad n of).map i64v := by
  unfold splice pad
  rw [List.take_zero, List.nil_append, Nat.zero_add, List.map_append]
  congr 1
  rw [List.drop_replicate, List.map_replicate]
  simp [i64v]
  omega
set_option maxHeartbeats 1000000 in
theorem nth_any (A B : Option Addr) (n : Nat) (of : List Int) (c d : Nat) (w : World) (hd : of.length ≤ d) (hn : n * 8 ≤ 140737488355328) (hl : of.length ≤ 140737488355328) (hB : Sees w B (of.map i64v)) :
    Calls Try.prog 26 #[.slice A n c, .slice B of.length d] w fun e w' => e = .returned (.int .i64 (nthV n of)) ∧ Below w.heap.size w w' := by
  have HB := Lib.hid hB
  clear hB
  by_cases h0 : n = 0
  · subst h0
    go_enter Try.func26, Try.ntmps26
    go_wp2
    go_ret
    exact ⟨rfl, Below.refl _ _⟩
  · have hn0 : ((n : Int) == 0) = false := by simp; omega
    obtain ⟨q, hq⟩ : ∃ q, quorN n = q := ⟨_, rfl⟩
    have hqn := quor_le (show 0 < n by omega)
    rw [hq] at hqn
    obtain ⟨hq1, hq2⟩ := hqn
    have HQ := Lib.hid hq
    have HV : Hid (nthV n of = (sortL (pad n of)).getD (n - q) 0) := Lib.hid (by unfold nthV nthN; rw [if_neg h0, pad_len, hq])
    have HPL := Lib.hid (pad_len n of)
    have HSP := Lib.hid (splice_pad n of)
    obtain ⟨P, hP⟩ : ∃ P, pad n of = P := ⟨_, rfl⟩
    rw [hP] at HV HPL HSP
    obtain ⟨i0, hi0, hz0, hz1, hz2⟩ := info_three infoInt
    have hN : n ≤ maxLen := by simp only [maxLen]; omega
    have hBN : i0.bytes * n ≤ 281474976710656 := by rw [hz2]; omega
    have HI := Lib.hid hi0
    have hinfo1 : (Try.prog.info? 3).map (·.size) = some 1 := by kernel_rfl
    have HZ2 := Lib.hid hz2
    have HRP : Hid ((madeCells (Value.int .i64 0).cells (n * 1)).toList = List.replicate n (.int .i64 0)) := Lib.hid (by rw [Nat.mul_one]; exact toList_madeCells_one _ _)
    clear hq hP h0 hi0 hz2
    go_enter Try.func26, Try.ntmps26
    go_wp2_with (first
      | (refine wpList_make_full _ rfl (.tmp 10) (.tmp 10) 25 rfl w.heap.size 3 i0 (.int .i64 0) 1 Try.underlying25 HI.out hz0 hz1 .i64 .i64 (n : Int) (n : Int) n rfl rfl rfl rfl hBN hN (Nat.le_refl _) ?_; intro w1 hown1' hg1; rw [HRP.out] at hown1'; have HO1 := Lib.hid hown1'; have hb1 : Below w.heap.size w w1 := (Below.refl _ _).grown hg1 (Nat.le_refl _) (fun k hk => by cases hk); have HB1 := Lib.hid hb1; clear hown1' hg1 hb1)
      | (refine wpList_copy_splice rfl (.tmp 12) (.tmp 13) 25 25 rfl 3 Try.underlying25 hinfo1 (some ⟨w.heap.size, 0, none⟩) B n n of.length d rfl rfl w.heap.size 0 (List.replicate n (.int .i64 0)) 3 (own_cells HO1.out) ((of.take n).map i64v) (by rw [List.length_map, List.length_take]; exact Nat.min_comm _ _) (fun hp => ⟨rfl, by
          obtain ⟨ad, e, _⟩ := ((HB.out.below HB1.out).take n) 0 _ (by rw [← List.map_take]; exact List.getElem?_eq_getElem hp)
          refine ⟨ad, e, fun j v hv => ?_⟩
          obtain ⟨ad', e', hc⟩ := ((HB.out.below HB1.out).take n) j v (by rw [← List.map_take]; exact hv)
          rw [e] at e'
          cases e'
          exact hc⟩) (by rw [List.length_map, List.length_take, List.length_replicate]; omega) (ints_one _) w.heap.size w HB1.out (Nat.le_refl _) ?_; intro w2 hc2 hb2; have hc2' := hc2.out; rw [HSP.out] at hc2'; have HO2 := Lib.hid (own_of_cells (base := w.heap.size) (Nat.le_refl _) hc2' (by rw [List.length_map]; exact HPL.out) hN); have HB2 := Lib.hid hb2; clear hc2 hc2' hb2)
      | (go_at_call 47; refine (sort_own_at (some ⟨w.heap.size, 0, none⟩) n P n _ HPL.out HO2.out (by omega)).mono ?_; rintro e w3 ⟨rfl, hown3, ho3⟩; have hb3 := HB2.out.trans (ho3.below (fun b hb => (own_block_ge HO2.out b hb).1) HB2.out.size); have HB3 := Lib.hid hb3; have hcell := (ints_at (sees_own' hown3).2.2.2 (n - q) (by rw [sortL_length, HPL.out]; omega)); obtain ⟨ad, e, hcell⟩ := hcell; cases e; rw [add_base] at hcell; clear hb3 hown3 ho3)
      | (go_at_call 13; refine (quorum_at A n c q _ (by omega) HQ.out).mono ?_; rintro e w' ⟨rfl, rfl⟩)
      | fail)
    go_ret
    refine ⟨?_, HB3.out⟩
    rw [HV.out, getD_at (by rw [sortL_length, HPL.out]; omega)]
    rfl


theorem cnt_take {P : List Int} {k : Nat} (hk : k < P.length) (t : Int) : cntN (P.take (k + 1)) t = cntN (P.take k) t + if t ≤ P[k] then 1 else 0 := by
  rw [List.take_succ_eq_append_getElem hk, cnt_append]
  congr 1
  unfold cntN
  by_cases h : t ≤ P[k] <;> simp [h]
theorem pad_at {n : Nat} {of P : List Int} (hP : pad n of = P) {k : Nat} (hk : k < n) (hkP : k < P.length) : P[k] = of.getD k 0 := by
  subst hP
  have := pad_get (of := of) hk
  rw [List.getElem?_eq_getElem hkP] at this
  exact Option.some.inj this
set_option maxHeartbeats 1000000 in
theorem refnth_any (A B : Option Addr) (n : Nat) (of : List Int) (c d : Nat) (w : World) (hd : of.length ≤ d) (hn : n * 8 ≤ 140737488355328) (hl : of.length ≤ 140737488355328) (hB : Sees w B (of.map i64v)) :
    Calls Try.prog 30 #[.slice A n c, .slice B of.length d] w fun e w' => e = .returned (.int .i64 (nthV n of)) ∧ w = w' := by
  have HB := Lib.hid hB
  clear hB
  obtain ⟨q, hq⟩ : ∃ q, quorN n = q := ⟨_, rfl⟩
  have HQ := Lib.hid hq
  obtain ⟨P, hP⟩ : ∃ P, pad n of = P := ⟨_, rfl⟩
  have HP := Lib.hid hP
  have HPL : Hid (P.length = n) := Lib.hid (by rw [← hP, pad_len])
  clear hq hP
  go_enter Try.func30, Try.ntmps30
  go_wp2_with fail
  go_loop [5, 6, 7] (fun s5 s6 s7 => ∃ k : Nat, s7 = .int .i64 (k : Int) ∧ k ≤ n ∧ s5 = .int .i64 (refFold P k).1 ∧ s6 = .bool (refFold P k).2) (fun _ _ s7 => n - (intOf s7).toNat)
  case atStart => exact ⟨0, rfl, Nat.zero_le _, rfl, rfl⟩
  case round =>
    obtain ⟨k, rfl, hk, rfl, rfl⟩ := hrel
    by_cases hlt : k < n
    · have hki : (k : Int) < (n : Int) := by omega
      have hkP : k < P.length := by rw [HPL.out]; exact hlt
      have HPK := Lib.hid (pad_at HP.out hlt hkP)
      have HFS := Lib.hid (refFold_succ P hkP)
      obtain ⟨best, hbe⟩ : ∃ best, (refFold P k).1 = best := ⟨_, rfl⟩
      obtain ⟨found, hfo⟩ : ∃ found, (refFold P k).2 = found := ⟨_, rfl⟩
      have HBE := Lib.hid hbe
      have HFO := Lib.hid hfo
      rw [hbe, hfo]
      clear hbe hfo
      by_cases hko : k < of.length
      · have hkoi : (k : Int) < (of.length : Int) := by omega
        obtain ⟨ad, rfl, hcell⟩ := ints_at HB.out k hko
        have HV : Hid (P[k] = of[k]) := Lib.hid (by rw [HPK.out, getD_at hko])
        obtain ⟨v, hv⟩ : ∃ v, of[k] = v := ⟨_, rfl⟩
        rw [hv] at hcell HV
        clear hv
--REST
        go_wp2_with fail
        go_loop [9, 10] (fun s9 s10 => ∃ m : Nat, s10 = .int .i64 (m : Int) ∧ m ≤ n ∧ s9 = .int .i64 (cntN (P.take m) v : Int)) (fun _ s10 => n - (intOf s10).toNat)
        case atStart => exact ⟨0, rfl, Nat.zero_le _, rfl⟩
        case round =>
          obtain ⟨m, rfl, hm, rfl⟩ := hrel
          have hcl := cnt_le (P.take m) v
          have hcl2 : cntN (P.take m) v ≤ n := Nat.le_trans hcl (by rw [List.length_take]; omega)
          have hcl3 : (cntN (P.take m) v : Int) ≤ (n : Int) := by omega
          clear hcl hcl2
          by_cases hmlt : m < n
          · have hmi : (m : Int) < (n : Int) := by omega
            have hmP : m < P.length := by rw [HPL.out]; exact hmlt
            have HPM := Lib.hid (pad_at HP.out hmlt hmP)
            have HCT := Lib.hid (cnt_take hmP v)
            by_cases hmo : m < of.length
            · have hmoi : (m : Int) < (of.length : Int) := by omega
              have hmo2 : ¬ (of.length : Int) ≤ (m : Int) := by omega
              obtain ⟨ad2, e2, hcell2⟩ := ints_at HB.out m hmo
              cases e2
              obtain ⟨u, hu⟩ : ∃ u, of[m] = u := ⟨_, rfl⟩
              rw [hu] at hcell2
              have HU : Hid (P[m] = u) := Lib.hid (by rw [HPM.out, getD_at hmo, hu])
              clear hu
              by_cases hvu : v ≤ u
              · go_wp2_with fail
                go_round
                case rel => exact ⟨m + 1, by go_num, by omega, by rw [HCT.out, HU.out, if_pos hvu]; go_num⟩
                case measure => simp [intOf]; omega
              · go_wp2_with fail
                go_round
                case rel => exact ⟨m + 1, by go_num, by omega, by rw [HCT.out, HU.out, if_neg hvu]; rfl⟩
                case measure => simp [intOf]; omega
            · have hmoi : ¬ (m : Int) < (of.length : Int) := by omega
              have hmo2 : (of.length : Int) ≤ (m : Int) := by omega
              have HU : Hid (P[m] = 0) := Lib.hid (by rw [HPM.out, List.getD_eq_getElem?_getD, List.getElem?_eq_none (by omega)]; rfl)
              by_cases hvu : v ≤ 0
              · go_wp2_with fail
                go_round
                case rel => exact ⟨m + 1, by go_num, by omega, by rw [HCT.out, HU.out, if_pos hvu]; go_num⟩
                case measure => simp [intOf]; omega
              · go_wp2_with fail
                go_round
                case rel => exact ⟨m + 1, by go_num, by omega, by rw [HCT.out, HU.out, if_neg hvu]; rfl⟩
                case measure => simp [intOf]; omega
          · obtain rfl : m = n := by omega
            have hmi : ¬ ((m : Int) < (m : Int)) := by omega
            have HCN : Hid (cntN (P.take m) v = cntN P v) := Lib.hid (by rw [← HPL.out, List.take_length])
            obtain ⟨cn, hcn⟩ : ∃ cn, cntN (P.take m) v = cn := ⟨_, rfl⟩
            rw [hcn] at HCN hcl3
            rw [hcn]
            clear hcn
            by_cases hqc : q ≤ cn
            · have hqi : (q : Int) ≤ (cn : Int) := by omega
              by_cases hup : found = false ∨ best < v
              · have HR : Hid (refFold P (k + 1) = (v, true)) := Lib.hid (by rw [HFS.out]; unfold refStep; rw [HPL.out, HQ.out, HV.out, ← HCN.out, HBE.out, HFO.out, if_pos ⟨hqc, hup⟩])
                cases found with
                | false =>
                  clear hup
                  go_wp2_with (first
                    | (go_at_call 49; refine (refquorum_at A m c q _ (by omega) HQ.out).mono ?_; rintro e w' ⟨rfl, rfl⟩)
                    | fail)
                  go_round
                  case rel => exact ⟨k + 1, by go_num, by omega, by rw [HR.out], by rw [HR.out]⟩
                  case measure => simp [intOf]; omega
                | true =>
                  have hbv : best < v := hup.resolve_left (by decide)
                  clear hup
                  go_wp2_with (first
                    | (go_at_call 49; refine (refquorum_at A m c q _ (by omega) HQ.out).mono ?_; rintro e w' ⟨rfl, rfl⟩)
                    | fail)
                  go_round
                  case rel => exact ⟨k + 1, by go_num, by omega, by rw [HR.out], by rw [HR.out]⟩
                  case measure => simp [intOf]; omega
              · have HR : Hid (refFold P (k + 1) = refFold P k) := Lib.hid (by rw [HFS.out]; unfold refStep; rw [if_neg]; rintro ⟨_, h⟩; rw [HV.out, HBE.out, HFO.out] at h; exact hup h)
                rw [not_or] at hup
                obtain ⟨hf1, hbv⟩ := hup
                have hf2 : found = true := by simpa using hf1
                clear hf1
                subst hf2
                go_wp2_with (first
                  | (go_at_call 49; refine (refquorum_at A m c q _ (by omega) HQ.out).mono ?_; rintro e w' ⟨rfl, rfl⟩)
                  | fail)
                go_round
                case rel => exact ⟨k + 1, by go_num, by omega, by rw [HR.out, HBE.out], by rw [HR.out, HFO.out]⟩
                case measure => simp [intOf]; omega
            · have hqi : ¬ (q : Int) ≤ (cn : Int) := by omega
              have HR : Hid (refFold P (k + 1) = refFold P k) := Lib.hid (by rw [HFS.out]; unfold refStep; rw [if_neg]; rintro ⟨h, _⟩; rw [HPL.out, HQ.out, HV.out, ← HCN.out] at h; exact hqc h)
              go_wp2_with (first
                | (go_at_call 49; refine (refquorum_at A m c q _ (by omega) HQ.out).mono ?_; rintro e w' ⟨rfl, rfl⟩)
                | fail)
              go_round
              case rel => exact ⟨k + 1, by go_num, by omega, by rw [HR.out, HBE.out], by rw [HR.out, HFO.out]⟩
              case measure => simp [intOf]; omega
      · have hkoi : ¬ (k : Int) < (of.length : Int) := by omega
        have HV : Hid (P[k] = 0) := Lib.hid (by rw [HPK.out, List.getD_eq_getElem?_getD, List.getElem?_eq_none (by omega)]; rfl)
        obtain ⟨v, hv⟩ : ∃ v : Int, 0 = v := ⟨_, rfl⟩
        rw [hv] at HV
        subst hv
        go_wp2_with fail
        go_loop [9, 10] (fun s9 s10 => ∃ m : Nat, s10 = .int .i64 (m : Int) ∧ m ≤ n ∧ s9 = .int .i64 (cntN (P.take m) 0 : Int)) (fun _ s10 => n - (intOf s10).toNat)
        case atStart => exact ⟨0, rfl, Nat.zero_le _, rfl⟩
        case round =>
          obtain ⟨m, rfl, hm, rfl⟩ := hrel
          have hcl := cnt_le (P.take m) 0
          have hcl2 : cntN (P.take m) 0 ≤ n := Nat.le_trans hcl (by rw [List.length_take]; omega)
          have hcl3 : (cntN (P.take m) 0 : Int) ≤ (n : Int) := by omega
          clear hcl hcl2
          by_cases hmlt : m < n
          · have hmi : (m : Int) < (n : Int) := by omega
            have hmP : m < P.length := by rw [HPL.out]; exact hmlt
            have HPM := Lib.hid (pad_at HP.out hmlt hmP)
            have HCT := Lib.hid (cnt_take hmP 0)
            by_cases hmo : m < of.length
            · have hmoi : (m : Int) < (of.length : Int) := by omega
              have hmo2 : ¬ (of.length : Int) ≤ (m : Int) := by omega
              obtain ⟨ad2, rfl, hcell2⟩ := ints_at HB.out m hmo
              obtain ⟨u, hu⟩ : ∃ u, of[m] = u := ⟨_, rfl⟩
              rw [hu] at hcell2
              have HU : Hid (P[m] = u) := Lib.hid (by rw [HPM.out, getD_at hmo, hu])
              clear hu
              by_cases hvu : (0 : Int) ≤ u
              · go_wp2_with fail
                go_round
                case rel => exact ⟨m + 1, by go_num, by omega, by rw [HCT.out, HU.out, if_pos hvu]; go_num⟩
                case measure => simp [intOf]; omega
              · go_wp2_with fail
                go_round
                case rel => exact ⟨m + 1, by go_num, by omega, by rw [HCT.out, HU.out, if_neg hvu]; rfl⟩
                case measure => simp [intOf]; omega
            · have hmoi : ¬ (m : Int) < (of.length : Int) := by omega
              have hmo2 : (of.length : Int) ≤ (m : Int) := by omega
              have HU : Hid (P[m] = 0) := Lib.hid (by rw [HPM.out, List.getD_eq_getElem?_getD, List.getElem?_eq_none (by omega)]; rfl)
              by_cases hvu : (0 : Int) ≤ 0
              · go_wp2_with fail
                go_round
                case rel => exact ⟨m + 1, by go_num, by omega, by rw [HCT.out, HU.out, if_pos hvu]; go_num⟩
                case measure => simp [intOf]; omega
              · exact absurd (Int.le_refl 0) hvu
          · obtain rfl : m = n := by omega
            have hmi : ¬ ((m : Int) < (m : Int)) := by omega
            have HCN : Hid (cntN (P.take m) 0 = cntN P 0) := Lib.hid (by rw [← HPL.out, List.take_length])
            obtain ⟨cn, hcn⟩ : ∃ cn, cntN (P.take m) 0 = cn := ⟨_, rfl⟩
            rw [hcn] at HCN hcl3
            rw [hcn]
            clear hcn
            by_cases hqc : q ≤ cn
            · have hqi : (q : Int) ≤ (cn : Int) := by omega
              by_cases hup : found = false ∨ best < 0
              · have HR : Hid (refFold P (k + 1) = (0, true)) := Lib.hid (by rw [HFS.out]; unfold refStep; rw [HPL.out, HQ.out, HV.out, ← HCN.out, HBE.out, HFO.out, if_pos ⟨hqc, hup⟩])
                cases found with
                | false =>
                  clear hup
                  go_wp2_with (first
                    | (go_at_call 49; refine (refquorum_at A m c q _ (by omega) HQ.out).mono ?_; rintro e w' ⟨rfl, rfl⟩)
                    | fail)
                  go_round
                  case rel => exact ⟨k + 1, by go_num, by omega, by rw [HR.out], by rw [HR.out]⟩
                  case measure => simp [intOf]; omega
                | true =>
                  have hbv : best < 0 := hup.resolve_left (by decide)
                  clear hup
                  go_wp2_with (first
                    | (go_at_call 49; refine (refquorum_at A m c q _ (by omega) HQ.out).mono ?_; rintro e w' ⟨rfl, rfl⟩)
                    | fail)
                  go_round
                  case rel => exact ⟨k + 1, by go_num, by omega, by rw [HR.out], by rw [HR.out]⟩
                  case measure => simp [intOf]; omega
              · have HR : Hid (refFold P (k + 1) = refFold P k) := Lib.hid (by rw [HFS.out]; unfold refStep; rw [if_neg]; rintro ⟨_, h⟩; rw [HV.out, HBE.out, HFO.out] at h; exact hup h)
                rw [not_or] at hup
                obtain ⟨hf1, hbv⟩ := hup
                have hf2 : found = true := by simpa using hf1
                clear hf1
                subst hf2
                go_wp2_with (first
                  | (go_at_call 49; refine (refquorum_at A m c q _ (by omega) HQ.out).mono ?_; rintro e w' ⟨rfl, rfl⟩)
                  | fail)
                go_round
                case rel => exact ⟨k + 1, by go_num, by omega, by rw [HR.out, HBE.out], by rw [HR.out, HFO.out]⟩
                case measure => simp [intOf]; omega
            · have hqi : ¬ (q : Int) ≤ (cn : Int) := by omega
              have HR : Hid (refFold P (k + 1) = refFold P k) := Lib.hid (by rw [HFS.out]; unfold refStep; rw [if_neg]; rintro ⟨h, _⟩; rw [HPL.out, HQ.out, HV.out, ← HCN.out] at h; exact hqc h)
              go_wp2_with (first
                | (go_at_call 49; refine (refquorum_at A m c q _ (by omega) HQ.out).mono ?_; rintro e w' ⟨rfl, rfl⟩)
                | fail)
              go_round
              case rel => exact ⟨k + 1, by go_num, by omega, by rw [HR.out, HBE.out], by rw [HR.out, HFO.out]⟩
              case measure => simp [intOf]; omega
    · obtain rfl : k = n := by omega
      have hki : ¬ ((k : Int) < (k : Int)) := by omega
      have HR : Hid ((refFold P k).1 = nthV k of) := Lib.hid (by
        unfold nthV
        by_cases h0 : k = 0
        · subst h0
          rfl
        · rw [if_neg h0, HP.out]
          have := refFold_all P (by rw [HPL.out]; omega)
          rwa [HPL.out] at this)
      go_wp2_with fail
      go_ret
      exact ⟨by rw [← HR.out]; rfl, rfl⟩
end Go.Proofs.Ytlcnpfiiijehmaa
