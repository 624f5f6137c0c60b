/-
  Layer 11: what must come (knows).
-/
import Derived.Test.YtopcgnilajmnhaaConf11
set_option linter.unusedVariables false
set_option linter.unusedSimpArgs false
namespace Go.Proofs.Ytopcgnilajmnhaa
open Go.RowKit

theorem nth_known : nthV 3 [5, 9, 7] = 7 := by
  unfold nthV
  rw [if_neg (by decide), show pad 3 [5, 9, 7] = [5, 9, 7] from rfl]
  refine nth_unique (by decide) (by decide) fun t ht => ?_
  refine Classical.byContradiction fun hn => ?_
  have h : quorN 3 = 2 := rfl
  simp only [List.length_cons, List.length_nil] at ht
  unfold cntN at ht
  rw [List.filter_cons_of_neg (by simp; omega), List.filter_cons, List.filter_cons_of_neg (by simp; omega)] at ht
  split at ht <;> simp [h] at ht
theorem nth_at (A B : Option Addr) (n : Nat) (of : List Int) (c m d : Nat) (z : Int) (w : World) (hm : of.length = m) (hd : m ≤ d) (hn : n * 8 ≤ 140737488355328) (hl : m ≤ 140737488355328) (hB : Sees w B (of.map i64v)) (hz : nthV n of = z) :
    Calls Try.prog 13 #[.slice A n c, .slice B m d] w fun e w' => e = .returned (.int .i64 z) ∧ Below w.heap.size w w' := by
  subst hm hz
  exact nth_any A B n of c d w hd hn hl hB
theorem right_at (A : Option Addr) (is : List Int) (n c : Nat) (b : Bool) (w : World) (hn : is.length = n) (hc : n ≤ c) (hl : n ≤ 140737488355328) (h : Sees w A (is.map i64v)) (hb : rightB is = b) :
    Calls Try.prog 16 #[.slice A n c] w (RetBool w b) := by
  subst hn hb
  exact (right_any A is c w hc hl h).mono fun e w' ⟨he, hw⟩ => ⟨he, below_of_drew hw⟩
theorem beside_at (A B : Option Addr) (is js : List Int) (n c m d : Nat) (b : Bool) (w : World) (hn : is.length = n) (hm : js.length = m) (hc : n ≤ c) (hd : m ≤ d) (hl : n ≤ 140737488355328) (hl2 : m ≤ 140737488355328) (hA : Sees w A (is.map i64v)) (hB : Sees w B (js.map i64v)) (hb : besideB is js = b) :
    Calls Try.prog 10 #[.slice A n c, .slice B m d] w (RetBool w b) := by
  subst hn hm hb
  exact beside_any A B is js c d w hc hd hl hl2 hA hB
set_option maxHeartbeats 1000000 in
theorem knows_any (w : World) : Calls Try.prog 12 #[] w (RetBool w true) := by
  have K1 : rightB [0] = true := by decide
  have K2 : besideB [0] [0, 1] = true := by decide
  have HK1 := Lib.hid K1
  have HK2 := Lib.hid K2
  have HN := Lib.hid nth_known
  clear K1 K2
  go_enter Try.func12, Try.ntmps12
  go_wp2_with fail
  refine (quorum_at (some ⟨w.heap.size, 0, none⟩) 4 4 3 _ (by omega) rfl).mono ?_
  rintro e _ ⟨rfl, rfl⟩
  obtain ⟨w1, hw1⟩ : ∃ w1, w.alloc (.cells #[.int .i64 1, .int .i64 2, .int .i64 3, .int .i64 4] 3) = w1 := ⟨_, rfl⟩
  have hb1 : Below w.heap.size w w1 := by rw [← hw1]; exact (Below.refl w.heap.size w).alloc (Nat.le_refl _) _
  rw [hw1]
  clear hw1
  go_wp2_with fail
  obtain ⟨w3, hw3⟩ : ∃ w3, (w1.alloc (.cells #[.int .i64 1, .int .i64 2, .int .i64 3] 3)).alloc (.cells #[.int .i64 5, .int .i64 9, .int .i64 7] 3) = w3 := ⟨_, rfl⟩
  have hb3 : Below w.heap.size w w3 := by rw [← hw3]; exact (hb1.alloc hb1.size _).alloc (by have := hb1.size; simp; omega) _
  have hs3 : Sees w3 (some ⟨w1.heap.size + 1, 0, none⟩) ([5, 9, 7].map i64v) := by
    have := sees_new (w1.alloc (.cells #[.int .i64 1, .int .i64 2, .int .i64 3] 3)) #[.int .i64 5, .int .i64 9, .int .i64 7] 3
    rw [hw3] at this
    simpa [i64v] using this
  rw [hw3]
  have HS3 := Lib.hid hs3
  clear hw3 hs3
  refine (nth_at (some ⟨w1.heap.size, 0, none⟩) (some ⟨w1.heap.size + 1, 0, none⟩) 3 [5, 9, 7] 3 3 3 7 w3 rfl (by omega) (by omega) (by omega) HS3.out HN.out).mono ?_
  rintro e w4 ⟨rfl, hb4'⟩
  have hb4 := below_step hb3 hb3.size hb4'
  clear hb4' hb1 hb3
  go_wp2_with fail
  have hs5 : Sees (w4.alloc (.cells #[.int .i64 0] 3)) (some ⟨w4.heap.size, 0, none⟩) ([0].map i64v) := sees_new w4 #[.int .i64 0] 3
  have HS5 := Lib.hid hs5
  clear hs5
  refine (right_at (some ⟨w4.heap.size, 0, none⟩) [0] 1 1 true _ rfl (by omega) (by omega) HS5.out HK1.out).mono ?_
  rintro e w5 ⟨rfl, hb5'⟩
  have hb5 := below_step (hb4.alloc hb4.size (.cells #[.int .i64 0] 3)) (by have := hb4.size; simp; omega) hb5'
  clear hb5' hb4
  go_wp2_with fail
  obtain ⟨w6, hw6⟩ : ∃ w6, (w5.alloc (.cells #[.int .i64 0] 3)).alloc (.cells #[.int .i64 0, .int .i64 1] 3) = w6 := ⟨_, rfl⟩
  have hb6 : Below w.heap.size w w6 := by rw [← hw6]; exact (hb5.alloc hb5.size _).alloc (by have := hb5.size; simp; omega) _
  have hs6 : Sees w6 (some ⟨w5.heap.size, 0, none⟩) ([0].map i64v) := by
    rw [← hw6]
    exact (sees_new w5 #[.int .i64 0] 3).below ((Below.refl _ _).alloc (Nat.le_refl _) _)
  have hs7 : Sees w6 (some ⟨w5.heap.size + 1, 0, none⟩) ([0, 1].map i64v) := by
    have := sees_new (w5.alloc (.cells #[.int .i64 0] 3)) #[.int .i64 0, .int .i64 1] 3
    rw [hw6] at this
    simpa [i64v] using this
  rw [hw6]
  have HS6 := Lib.hid hs6
  have HS7 := Lib.hid hs7
  clear hw6 hs6 hs7
  refine (beside_at (some ⟨w5.heap.size, 0, none⟩) (some ⟨w5.heap.size + 1, 0, none⟩) [0] [0, 1] 1 1 2 2 true w6 rfl rfl (by omega) (by omega) (by omega) (by omega) HS6.out HS7.out HK2.out).mono ?_
  rintro e w7 ⟨rfl, hb7'⟩
  have hb7 := below_step hb6 hb6.size hb7'
  clear hb7' hb6 hb5
  go_wp2_with fail
  go_ret
  exact ⟨rfl, hb7⟩
end Go.Proofs.Ytopcgnilajmnhaa
