/-
  Layer 11: Nth, the program's.
-/
import Derived.Test.YtopcgnilajmnhaaConf9
set_option linter.unusedVariables false
set_option linter.unusedSimpArgs false
namespace Go.Proofs.Ytopcgnilajmnhaa
open Go.RowKit

theorem quorum_at (A : Option Addr) (n c q : Nat) (w : World) (hl : n ≤ 140737488355328) (hq : quorN n = q) : Calls Try.prog 20 #[.slice A n c] w fun e w' => e = .returned (.int .i64 (q : Int)) ∧ w = w' := by
  subst hq
  exact quorum_any A n c w hl
theorem refquorum_at (A : Option Addr) (n c q : Nat) (w : World) (hl : n ≤ 140737488355328) (hq : quorN n = q) : Calls Try.prog 21 #[.slice A n c] w fun e w' => e = .returned (.int .i64 (q : Int)) ∧ w = w' := by
  subst hq
  exact refquorum_any A n c w hl
/-- A row whose cells are all known. -/
theorem own_cells {w : World} {base n g : Nat} {xs : List Value} (h : w.ownsRow base 3 1 (.slice (some ⟨g, 0, none⟩) n n) n xs) : w.heap[g]? = some (.cells xs.toArray 3 (0, 0)) := by
  obtain ⟨h1, hh⟩ := h
  rcases hh with ⟨hv, _⟩ | ⟨g', cap, cur, hv, _, hg, _, _, hs, ht⟩
  · cases hv
  · cases hv
    rw [hg]
    have : cur = xs.toArray := by
      rw [← ht, Nat.mul_one, List.take_of_length_le (by simp; omega)]
    rw [this]
theorem own_of_cells {w : World} {base n g : Nat} {xs : List Value} (hb : base ≤ g) (hg : w.heap[g]? = some (.cells xs.toArray 3 (0, 0))) (hn : xs.length = n) (hm : n ≤ maxLen) : w.ownsRow base 3 1 (.slice (some ⟨g, 0, none⟩) n n) n xs :=
  ⟨by rw [hn, Nat.mul_one], .inr ⟨g, n, _, rfl, hb, hg, Nat.le_refl _, hm, by simp [hn], by rw [Nat.mul_one]; exact List.take_of_length_le (Nat.le_of_eq hn)⟩⟩
theorem splice_pad (n : Nat) (of : List Int) : splice (List.replicate n (Value.int .i64 0)) 0 ((of.take n).map i64v) = (pad n of).map i64v := by
  unfold splice pad
  rw [List.take_zero, List.nil_append, Nat.zero_add, List.map_append]
  congr 1
  rw [List.drop_replicate, List.map_replicate]
  simp [i64v]
  omega
set_option maxHeartbeats 1000000 in
theorem nth_any (A B : Option Addr) (n : Nat) (of : List Int) (c d : Nat) (w : World) (hd : of.length ≤ d) (hn : n * 8 ≤ 140737488355328) (hl : of.length ≤ 140737488355328) (hB : Sees w B (of.map i64v)) :
    Calls Try.prog 13 #[.slice A n c, .slice B of.length d] w fun e w' => e = .returned (.int .i64 (nthV n of)) ∧ Below w.heap.size w w' := by
  have HB := Lib.hid hB
  clear hB
  by_cases h0 : n = 0
  · subst h0
    go_enter Try.func13, Try.ntmps13
    go_wp2
    go_ret
    exact ⟨rfl, Below.refl _ _⟩
  · have hn0 : ((n : Int) == 0) = false := by simp; omega
    obtain ⟨q, hq⟩ : ∃ q, quorN n = q := ⟨_, rfl⟩
    have hqn := quor_le (show 0 < n by omega)
    rw [hq] at hqn
    obtain ⟨hq1, hq2⟩ := hqn
    have HQ := Lib.hid hq
    have HV : Hid (nthV n of = (sortL (pad n of)).getD (n - q) 0) := Lib.hid (by unfold nthV nthN; rw [if_neg h0, pad_len, hq])
    have HPL := Lib.hid (pad_len n of)
    have HSP := Lib.hid (splice_pad n of)
    obtain ⟨P, hP⟩ : ∃ P, pad n of = P := ⟨_, rfl⟩
    rw [hP] at HV HPL HSP
    obtain ⟨i0, hi0, hz0, hz1, hz2⟩ := info_three infoInt
    have hN : n ≤ maxLen := by simp only [maxLen]; omega
    have hBN : i0.bytes * n ≤ 281474976710656 := by rw [hz2]; omega
    have HI := Lib.hid hi0
    have hinfo1 : (Try.prog.info? 3).map (·.size) = some 1 := by kernel_rfl
    have HZ2 := Lib.hid hz2
    have HRP : Hid ((madeCells (Value.int .i64 0).cells (n * 1)).toList = List.replicate n (.int .i64 0)) := Lib.hid (by rw [Nat.mul_one]; exact toList_madeCells_one _ _)
    clear hq hP h0 hi0 hz2
    go_enter Try.func13, Try.ntmps13
    go_wp2_with (first
      | (refine wpList_make_full _ rfl (.tmp 10) (.tmp 10) 22 rfl w.heap.size 3 i0 (.int .i64 0) 1 Try.underlying22 HI.out hz0 hz1 .i64 .i64 (n : Int) (n : Int) n rfl rfl rfl rfl hBN hN (Nat.le_refl _) ?_; intro w1 hown1' hg1; rw [HRP.out] at hown1'; have HO1 := Lib.hid hown1'; have hb1 : Below w.heap.size w w1 := (Below.refl _ _).grown hg1 (Nat.le_refl _) (fun k hk => by cases hk); have HB1 := Lib.hid hb1; clear hown1' hg1 hb1)
      | (refine wpList_copy_splice rfl (.tmp 12) (.tmp 13) 22 22 rfl 3 Try.underlying22 hinfo1 (some ⟨w.heap.size, 0, none⟩) B n n of.length d rfl rfl w.heap.size 0 (List.replicate n (.int .i64 0)) 3 (own_cells HO1.out) ((of.take n).map i64v) (by rw [List.length_map, List.length_take]; exact Nat.min_comm _ _) (fun hp => ⟨rfl, by
          obtain ⟨ad, e, _⟩ := ((HB.out.below HB1.out).take n) 0 _ (by rw [← List.map_take]; exact List.getElem?_eq_getElem hp)
          refine ⟨ad, e, fun j v hv => ?_⟩
          obtain ⟨ad', e', hc⟩ := ((HB.out.below HB1.out).take n) j v (by rw [← List.map_take]; exact hv)
          rw [e] at e'
          cases e'
          exact hc⟩) (by rw [List.length_map, List.length_take, List.length_replicate]; omega) (ints_one _) w.heap.size w HB1.out (Nat.le_refl _) ?_; intro w2 hc2 hb2; have hc2' := hc2.out; rw [HSP.out] at hc2'; have HO2 := Lib.hid (own_of_cells (base := w.heap.size) (Nat.le_refl _) hc2' (by rw [List.length_map]; exact HPL.out) hN); have HB2 := Lib.hid hb2; clear hc2 hc2' hb2)
      | (go_at_call 28; refine (sort_own_at (some ⟨w.heap.size, 0, none⟩) n P n _ HPL.out HO2.out (by omega)).mono ?_; rintro e w3 ⟨rfl, hown3, ho3⟩; have hb3 := HB2.out.trans (ho3.below (fun b hb => (own_block_ge HO2.out b hb).1) HB2.out.size); have HB3 := Lib.hid hb3; have hcell := (ints_at (sees_own' hown3).2.2.2 (n - q) (by rw [sortL_length, HPL.out]; omega)); obtain ⟨ad, e, hcell⟩ := hcell; cases e; rw [add_base] at hcell; clear hb3 hown3 ho3)
      | (go_at_call 20; refine (quorum_at A n c q _ (by omega) HQ.out).mono ?_; rintro e w' ⟨rfl, rfl⟩)
      | fail)
    go_ret
    refine ⟨?_, HB3.out⟩
    rw [HV.out, getD_at (by rw [sortL_length, HPL.out]; omega)]
    rfl
end Go.Proofs.Ytopcgnilajmnhaa
