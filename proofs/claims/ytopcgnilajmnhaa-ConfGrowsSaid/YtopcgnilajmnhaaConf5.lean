/-
  Layer 11: Change, the program's.
-/
import Derived.Test.YtopcgnilajmnhaaConf4
set_option linter.unusedVariables false
set_option linter.unusedSimpArgs false
namespace Go.Proofs.Ytopcgnilajmnhaa
open Go.RowKit

def changeE (l : List Int) (add : Bool) (id : Int) : Int :=
  if rightB l = false ∨ id < 0 ∨ 16 ≤ id then 1 else if add = hasB l id ∨ (add = true ∧ l.length = 7) ∨ (add = false ∧ l.length = 1) then 33 else 0
def changeL (l : List Int) (add : Bool) (id : Int) : List Int := if changeE l add id = 0 then (if add = true then sortL (l ++ [id]) else filt l id) else []
/-- A list of the call's own, and a number. -/
def RetList (w : World) (xs : List Int) (err : Int) (e : Ending) (w' : World) : Prop :=
  ∃ A c, e = .returned (.tuple #[.slice A xs.length c, .int .i64 err]) ∧ w'.ownsRow w.heap.size 3 1 (.slice A xs.length c) xs.length (xs.map i64v) ∧ Below w.heap.size w w'
theorem below_of_drew {w wr : World} (h : ∃ n, wr = w.drewN n) : Below w.heap.size w wr := by
  obtain ⟨n, rfl⟩ := h
  exact below_drewN w n
theorem changeL_err {l : List Int} {add : Bool} {id z : Int} (h : changeE l add id = z) (hz : z ≠ 0) : changeL l add id = [] := by
  unfold changeL
  rw [if_neg (by rw [h]; exact hz)]
theorem retList_err {w w' : World} {l : List Int} {add : Bool} {id z : Int} (h : changeE l add id = z) (hz : z ≠ 0) (hb : Below w.heap.size w w') : RetList w (changeL l add id) (changeE l add id) (.returned (.tuple #[.slice none 0 0, .int .i64 z])) w' :=
  ⟨none, 0, by rw [changeL_err h hz, h]; rfl, by rw [changeL_err h hz]; exact ⟨rfl, .inl ⟨rfl, rfl⟩⟩, hb⟩
set_option maxHeartbeats 2000000 in
theorem change_any (A : Option Addr) (is : List Int) (c : Nat) (add : Bool) (id : Int) (w : World) (hc : is.length ≤ c) (hl : (is.length + 1) * 8 ≤ 140737488355328) (h : Sees w A (is.map i64v)) :
    Calls Try.prog 22 #[.slice A is.length c, .bool add, .int .i64 id] w (RetList w (changeL is add id) (changeE is add id)) := by
  have H := Lib.hid h
  have hal := (Below.refl w.heap.size w).alloc (Nat.le_refl _) (.cells #[.int .i64 id] 3)
  have hc0 : (w.alloc (.cells #[.int .i64 id] 3)).cell? ⟨w.heap.size, 0, none⟩ = some (.int .i64 id) := by rw [cell_of_row _ _ 0 _ _ _ (heap_alloc_new w _)]; rfl
  clear h
  cases hr : rightB is with
  | false =>
    have HR := Lib.hid hr
    have HE : Hid (changeE is add id = 1) := Lib.hid (by unfold changeE; rw [if_pos (.inl hr)])
    clear hr
    go_enter Try.func22, Try.ntmps22
    go_wp2_with (first
      | (go_at_call 16; refine (right_any A is c _ hc (by omega) (H.out.below hal)).mono ?_; rintro e w1 ⟨rfl, hw1⟩; rw [HR.out]; have hb1 := below_step hal hal.size (below_of_drew hw1); have hc1 := ((below_of_drew hw1).cell (p := ⟨w.heap.size, 0, none⟩) (by simp)).trans hc0; have HB1 := Lib.hid hb1; have HC1 := Lib.hid hc1; have HZ1 := Lib.hid (Nat.lt_of_lt_of_le (show w.heap.size < (w.alloc (.cells #[.int .i64 id] 3)).heap.size by simp) (below_of_drew hw1).size); clear hw1 hb1)
      | fail)
    go_ret2
    exact retList_err HE.out (by decide) HB1.out
  | true =>
    have HR := Lib.hid hr
    by_cases h0 : id < 0
    · have HE : Hid (changeE is add id = 1) := Lib.hid (by unfold changeE; rw [if_pos (.inr (.inl h0))])
      clear hr
      go_enter Try.func22, Try.ntmps22
      go_wp2_with (first
        | (go_at_call 16; refine (right_any A is c _ hc (by omega) (H.out.below hal)).mono ?_; rintro e w1 ⟨rfl, hw1⟩; rw [HR.out]; have hb1 := below_step hal hal.size (below_of_drew hw1); have hc1 := ((below_of_drew hw1).cell (p := ⟨w.heap.size, 0, none⟩) (by simp)).trans hc0; have HB1 := Lib.hid hb1; have HC1 := Lib.hid hc1; have HZ1 := Lib.hid (Nat.lt_of_lt_of_le (show w.heap.size < (w.alloc (.cells #[.int .i64 id] 3)).heap.size by simp) (below_of_drew hw1).size); clear hw1 hb1)
        | fail)
      go_ret2
      exact retList_err HE.out (by decide) HB1.out
    by_cases h16 : 16 ≤ id
    · have HE : Hid (changeE is add id = 1) := Lib.hid (by unfold changeE; rw [if_pos (.inr (.inr h16))])
      clear hr
      go_enter Try.func22, Try.ntmps22
      go_wp2_with (first
        | (go_at_call 16; refine (right_any A is c _ hc (by omega) (H.out.below hal)).mono ?_; rintro e w1 ⟨rfl, hw1⟩; rw [HR.out]; have hb1 := below_step hal hal.size (below_of_drew hw1); have hc1 := ((below_of_drew hw1).cell (p := ⟨w.heap.size, 0, none⟩) (by simp)).trans hc0; have HB1 := Lib.hid hb1; have HC1 := Lib.hid hc1; have HZ1 := Lib.hid (Nat.lt_of_lt_of_le (show w.heap.size < (w.alloc (.cells #[.int .i64 id] 3)).heap.size by simp) (below_of_drew hw1).size); clear hw1 hb1)
        | fail)
      go_ret2
      exact retList_err HE.out (by decide) HB1.out
    have HE0 : Hid (changeE is add id = if add = hasB is id ∨ (add = true ∧ is.length = 7) ∨ (add = false ∧ is.length = 1) then 33 else 0) := Lib.hid (by unfold changeE; rw [if_neg]; rintro (h | h | h); exact absurd h (by rw [hr]; decide); exact h0 h; exact h16 h)
    have d0 : decide (id < 0) = false := by simpa using h0
    have d16 : decide (16 ≤ id) = false := by simpa using h16
    clear hr
    obtain ⟨hb, hhb⟩ : ∃ hb, hasB is id = hb := ⟨_, rfl⟩
    have HH := Lib.hid hhb
    rw [hhb] at HE0
    clear hhb
    cases add
    case true =>
      cases hb with
      | true =>
        have HE : Hid (changeE is true id = 33) := Lib.hid (by rw [HE0.out, if_pos (.inl rfl)])
        go_enter Try.func22, Try.ntmps22
        go_wp2_with (first
          | (go_at_call 16; refine (right_any A is c _ hc (by omega) (H.out.below hal)).mono ?_; rintro e w1 ⟨rfl, hw1⟩; rw [HR.out]; have hb1 := below_step hal hal.size (below_of_drew hw1); have hc1 := ((below_of_drew hw1).cell (p := ⟨w.heap.size, 0, none⟩) (by simp)).trans hc0; have HB1 := Lib.hid hb1; have HC1 := Lib.hid hc1; have HZ1 := Lib.hid (Nat.lt_of_lt_of_le (show w.heap.size < (w.alloc (.cells #[.int .i64 id] 3)).heap.size by simp) (below_of_drew hw1).size); clear hw1 hb1)
          | (go_at_call 18; refine (has_any A is c id _ hc (by omega) (H.out.below HB1.out)).mono ?_; rintro e w' ⟨rfl, rfl⟩; rw [HH.out])
          | fail)
        go_ret2
        exact retList_err HE.out (by decide) HB1.out
      | false =>
        by_cases hn : is.length = 7
        · have HE : Hid (changeE is true id = 33) := Lib.hid (by rw [HE0.out, if_pos (by simp [hn])])
          have hn1 : ((is.length : Int) == 7) = true := by simp; omega
          clear hn
          go_enter Try.func22, Try.ntmps22
          go_wp2_with (first
            | (go_at_call 16; refine (right_any A is c _ hc (by omega) (H.out.below hal)).mono ?_; rintro e w1 ⟨rfl, hw1⟩; rw [HR.out]; have hb1 := below_step hal hal.size (below_of_drew hw1); have hc1 := ((below_of_drew hw1).cell (p := ⟨w.heap.size, 0, none⟩) (by simp)).trans hc0; have HB1 := Lib.hid hb1; have HC1 := Lib.hid hc1; have HZ1 := Lib.hid (Nat.lt_of_lt_of_le (show w.heap.size < (w.alloc (.cells #[.int .i64 id] 3)).heap.size by simp) (below_of_drew hw1).size); clear hw1 hb1)
            | (go_at_call 18; refine (has_any A is c id _ hc (by omega) (H.out.below HB1.out)).mono ?_; rintro e w' ⟨rfl, rfl⟩; rw [HH.out])
            | fail)
          go_ret2
          exact retList_err HE.out (by decide) HB1.out
        · have HE : Hid (changeE is true id = 0) := Lib.hid (by rw [HE0.out, if_neg (by simp [hn])])
          have hn1 : ((is.length : Int) == 7) = false := by simp; omega
          clear hn
          go_enter Try.func22, Try.ntmps22
          go_wp2_with (first
            | (go_at_call 16; refine (right_any A is c _ hc (by omega) (H.out.below hal)).mono ?_; rintro e w1 ⟨rfl, hw1⟩; rw [HR.out]; have hb1 := below_step hal hal.size (below_of_drew hw1); have hc1 := ((below_of_drew hw1).cell (p := ⟨w.heap.size, 0, none⟩) (by simp)).trans hc0; have HB1 := Lib.hid hb1; have HC1 := Lib.hid hc1; have HZ1 := Lib.hid (Nat.lt_of_lt_of_le (show w.heap.size < (w.alloc (.cells #[.int .i64 id] 3)).heap.size by simp) (below_of_drew hw1).size); clear hw1 hb1)
            | (go_at_call 18; refine (has_any A is c id _ hc (by omega) (H.out.below HB1.out)).mono ?_; rintro e w' ⟨rfl, rfl⟩; rw [HH.out])
            | (go_at_call 31; refine (with_any A (some ⟨w1.heap.size, 0, none⟩) is [id] c 1 _ hc (by simp) (by simpa using hl) ((H.out.below HB1.out).below ((Below.refl _ _).alloc (Nat.le_refl _) _)) (sees_new w1 #[.int .i64 id] 3)).mono ?_; rintro e w3 ⟨A3, c3, rfl, hown3, hb3⟩)
            | fail)
          go_ret2
          have hL : changeL is true id = sortL (is ++ [id]) := by unfold changeL; rw [HE.out]; rfl
          have hn : (sortL (is ++ [id])).length = is.length + [id].length := by simp [sortL_length]
          have hB3 := below_step HB1.out HB1.out.size (below_step ((Below.refl w1.heap.size w1).alloc (Nat.le_refl _) (.cells #[.int .i64 id] 3)) (by simp) hb3)
          refine ⟨A3, c3, by rw [HE.out, hL, hn]; rfl, ?_, hB3⟩
          rw [hL, hn]
          exact own_lower hown3 (by have := HB1.out.size; simp; omega)
    case false =>
      cases hb with
      | false =>
        have HE : Hid (changeE is false id = 33) := Lib.hid (by rw [HE0.out, if_pos (.inl rfl)])
        go_enter Try.func22, Try.ntmps22
        go_wp2_with (first
          | (go_at_call 16; refine (right_any A is c _ hc (by omega) (H.out.below hal)).mono ?_; rintro e w1 ⟨rfl, hw1⟩; rw [HR.out]; have hb1 := below_step hal hal.size (below_of_drew hw1); have hc1 := ((below_of_drew hw1).cell (p := ⟨w.heap.size, 0, none⟩) (by simp)).trans hc0; have HB1 := Lib.hid hb1; have HC1 := Lib.hid hc1; have HZ1 := Lib.hid (Nat.lt_of_lt_of_le (show w.heap.size < (w.alloc (.cells #[.int .i64 id] 3)).heap.size by simp) (below_of_drew hw1).size); clear hw1 hb1)
          | (go_at_call 18; refine (has_any A is c id _ hc (by omega) (H.out.below HB1.out)).mono ?_; rintro e w' ⟨rfl, rfl⟩; rw [HH.out])
          | fail)
        go_ret2
        exact retList_err HE.out (by decide) HB1.out
      | true =>
        by_cases hn : is.length = 1
        · have HE : Hid (changeE is false id = 33) := Lib.hid (by rw [HE0.out, if_pos (by simp [hn])])
          have hn1 : ((is.length : Int) == 1) = true := by simp; omega
          clear hn
          go_enter Try.func22, Try.ntmps22
          go_wp2_with (first
            | (go_at_call 16; refine (right_any A is c _ hc (by omega) (H.out.below hal)).mono ?_; rintro e w1 ⟨rfl, hw1⟩; rw [HR.out]; have hb1 := below_step hal hal.size (below_of_drew hw1); have hc1 := ((below_of_drew hw1).cell (p := ⟨w.heap.size, 0, none⟩) (by simp)).trans hc0; have HB1 := Lib.hid hb1; have HC1 := Lib.hid hc1; have HZ1 := Lib.hid (Nat.lt_of_lt_of_le (show w.heap.size < (w.alloc (.cells #[.int .i64 id] 3)).heap.size by simp) (below_of_drew hw1).size); clear hw1 hb1)
            | (go_at_call 18; refine (has_any A is c id _ hc (by omega) (H.out.below HB1.out)).mono ?_; rintro e w' ⟨rfl, rfl⟩; rw [HH.out])
            | fail)
          go_ret2
          exact retList_err HE.out (by decide) HB1.out
        · have HE : Hid (changeE is false id = 0) := Lib.hid (by rw [HE0.out, if_neg (by simp [hn])])
          have hn1 : ((is.length : Int) == 1) = false := by simp; omega
          clear hn
          go_enter Try.func22, Try.ntmps22
          go_wp2_with (first
            | (go_at_call 16; refine (right_any A is c _ hc (by omega) (H.out.below hal)).mono ?_; rintro e w1 ⟨rfl, hw1⟩; rw [HR.out]; have hb1 := below_step hal hal.size (below_of_drew hw1); have hc1 := ((below_of_drew hw1).cell (p := ⟨w.heap.size, 0, none⟩) (by simp)).trans hc0; have HB1 := Lib.hid hb1; have HC1 := Lib.hid hc1; have HZ1 := Lib.hid (Nat.lt_of_lt_of_le (show w.heap.size < (w.alloc (.cells #[.int .i64 id] 3)).heap.size by simp) (below_of_drew hw1).size); clear hw1 hb1)
            | (go_at_call 18; refine (has_any A is c id _ hc (by omega) (H.out.below HB1.out)).mono ?_; rintro e w' ⟨rfl, rfl⟩; rw [HH.out])
            | (go_at_call 33; refine (clone_ints A is c _ hc (by omega) (H.out.below HB1.out)).mono ?_; rintro e w2 ⟨A2, c2, rfl, hown2, hb2⟩)
            | (go_at_call 32; refine (deleteFunc_any A2 is c2 w.heap.size id w2 hown2 (by omega) ((hb2.cell (p := ⟨w.heap.size, 0, none⟩) (World.block_lt_of_cell? _ _ HC1.out)).trans HC1.out) (fun e => Nat.lt_irrefl _ (Nat.lt_of_lt_of_le HZ1.out (own_block_ge hown2 _ e).1))).mono ?_; rintro e w3 ⟨rfl, hown3, ho3⟩)
            | fail)
          go_ret2
          have hL : changeL is false id = filt is id := by unfold changeL; rw [HE.out]; rfl
          have hB2 := below_step HB1.out HB1.out.size hb2
          have hB3 := hB2.trans (ho3.below (fun b hb => Nat.le_trans HB1.out.size (own_block_ge hown2 b hb).1) hB2.size)
          refine ⟨A2, c2, by rw [HE.out, hL]; rfl, ?_, hB3⟩
          rw [hL]
          exact own_lower hown3 HB1.out.size
end Go.Proofs.Ytopcgnilajmnhaa
