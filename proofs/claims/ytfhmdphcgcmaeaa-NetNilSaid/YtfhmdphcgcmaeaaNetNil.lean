/-
  NetNil: the walk.
-/
import Derived.Test.YtfhmdphcgcmaeaaNetN
import Derived.Test.YtfhmdphcgcmaeaaNetL1
import Derived.Deep.LoopGhost
import Derived.Deep.CutBlock
set_option linter.unusedVariables false
set_option linter.unusedSimpArgs false
namespace Go.Proofs.Ytfhmdphcgcmaeaa
open Go.RowKit

set_option maxHeartbeats 8000000 in
set_option maxRecDepth 100000 in
theorem netNil_any (kind k f t : Int) (A : Option Addr) (bs : List UInt8) (c : Nat) (B : Option Addr) (ids : List Int) (d : Nat) (w : World) (hc : bs.length ≤ c) (hl : bs.length ≤ 140737488351232) (hA : Sees w A (u8s bs)) (hil : ids.length ≤ 140737488351232) (hB : Sees w B (ids.map intV)) :
    Calls Try.prog 7 #[.agg #[.int .i64 kind, .int .i64 k, .int .i64 f, .int .i64 t, .slice A bs.length c, .slice B ids.length d]] w (RetBool w true) := by
  obtain ⟨W, hW⟩ : ∃ W, w.alloc (.cells #[.int .i64 kind, .int .i64 k, .int .i64 f, .int .i64 t, .slice A bs.length c, .slice B ids.length d] 45) = W := ⟨_, rfl⟩
  have hal : Below w.heap.size w W := by rw [← hW]; exact (Below.refl w.heap.size w).alloc (Nat.le_refl _) _
  have x0 : W.heap[w.heap.size]? = some (.cells #[.int .i64 kind, .int .i64 k, .int .i64 f, .int .i64 t, .slice A bs.length c, .slice B ids.length d] 45 (0, 0)) := by rw [← hW]; exact heap_alloc_new w _
  have SA := Lib.hid (hA.below hal)
  have SB := Lib.hid (hB.below hal)
  have HW := Lib.hid hW
  have HAL := Lib.hid hal
  have hzl : w.heap.size < W.heap.size := (Array.getElem?_eq_some_iff.1 x0).1
  have HBox : ∀ W', Later W W' → W'.cell? ⟨w.heap.size, 1, none⟩ = some (.int .i64 k) ∧ W'.cell? ⟨w.heap.size, 2, none⟩ = some (.int .i64 f) ∧ W'.cell? ⟨w.heap.size, 3, none⟩ = some (.int .i64 t) ∧ W'.cell? ⟨w.heap.size, 4, none⟩ = some (.slice A bs.length c) ∧ W'.cell? ⟨w.heap.size, 5, none⟩ = some (.slice B ids.length d) := by
    intro W' hb
    have y := (hb.block _ hzl).trans x0
    exact ⟨by rw [cell_of_row W' _ 1 _ _ _ y]; rfl, by rw [cell_of_row W' _ 2 _ _ _ y]; rfl, by rw [cell_of_row W' _ 3 _ _ _ y]; rfl, by rw [cell_of_row W' _ 4 _ _ _ y]; rfl, by rw [cell_of_row W' _ 5 _ _ _ y]; rfl⟩
  have HBX := Lib.hid HBox
  have HZL := Lib.hid hzl
  clear hA hB hW hal x0 HBox hzl
  go_enter Try.func7, Try.ntmps7
  go_wp2
  rw [HW.out]
  go_loopg [3, 4] 2 (fun gk v i wr => ∃ j : Nat, j ≤ 2 ∧ gk = 2 - j ∧ i = .int .i64 (j : Int) ∧ IsNone v wr ∧ Later W wr)
  case atStart => exact ⟨0, by decide, rfl, rfl, isNone_nil _, Below.refl _ _⟩
  case round =>
    obtain ⟨j, hj, rfl, rfl, hn, hlr⟩ := hrel
    have HN := Lib.hid hn
    have HLR := Lib.hid hlr
    clear hn hlr
    by_cases hj2 : j < 2
    · have hji : (j : Int) < 2 := by omega
      obtain ⟨b1, b2, b3, b4, b5⟩ := HBX.out _ HLR.out
      go_upto_region 7 with (first
        | (go_at_call 16; refine (look_none k _ HN.out).mono ?_; rintro e w3 ⟨A3, c3, rfl, hown3, hb3⟩; have ha3 := hb3.alloc hb3.size (.cells #[.int .i64 0, .int .i64 0, .slice A3 0 c3] 33); have hL3 := later_step HLR.out ha3; have d1 := (HBX.out _ hL3).1; have HL3 := Lib.hid hL3; have HA3 := Lib.hid ha3; clear hL3 ha3)
        | (go_at_call 13; refine (take_none k _ (HN.out.later HA3.out)).mono ?_; rintro e w4 ⟨A4, c4, rfl, hown4, hb4⟩)
        | fail)
      obtain ⟨W7, hW7⟩ : ∃ W7, w4.alloc (.cells #[.int .i64 0, .int .i64 0, .slice A4 0 c4] 33) = W7 := ⟨_, rfl⟩
      rw [hW7]
      have h47 : Below w4.heap.size w4 W7 := by rw [← hW7]; exact (Below.refl _ _).alloc (Nat.le_refl _) _
      have x7 : W7.heap[w4.heap.size]? = some (.cells #[.int .i64 0, .int .i64 0, .slice A4 0 c4] 33 (0, 0)) := by rw [← hW7]; exact heap_alloc_new _ _
      have hz7 := (Array.getElem?_eq_some_iff.1 x7).1
      have x3 : (w3.alloc (.cells #[.int .i64 0, .int .i64 0, .slice A3 0 c3] 33)).heap[w3.heap.size]? = some (.cells #[.int .i64 0, .int .i64 0, .slice A3 0 c3] 33 (0, 0)) := heap_alloc_new _ _
      have h37 : Later (w3.alloc (.cells #[.int .i64 0, .int .i64 0, .slice A3 0 c3] 33)) W7 := below_step hb4 hb4.size h47
      have hW7' : Later W W7 := later_step HL3.out h37
      have x37 := (h37.block w3.heap.size (by simp)).trans x3
      have hz37 := (Array.getElem?_eq_some_iff.1 x37).1
      have hcell : ∀ W', Later W7 W' → W'.cell? ⟨w.heap.size, 1, none⟩ = some (.int .i64 k) ∧ W'.cell? ⟨w.heap.size, 2, none⟩ = some (.int .i64 f) ∧ W'.cell? ⟨w.heap.size, 3, none⟩ = some (.int .i64 t) ∧ W'.cell? ⟨w.heap.size, 4, none⟩ = some (.slice A bs.length c) ∧ W'.cell? ⟨w.heap.size, 5, none⟩ = some (.slice B ids.length d) ∧ W'.cell? ⟨w3.heap.size, 2, none⟩ = some (.slice A3 0 c3) ∧ W'.cell? ⟨w4.heap.size, 2, none⟩ = some (.slice A4 0 c4) := by
        intro W' hb
        obtain ⟨q1, q2, q3, q4, q5⟩ := HBX.out _ (later_step hW7' hb)
        exact ⟨q1, q2, q3, q4, q5, by rw [cell_of_row W' _ 2 _ _ _ ((hb.block _ hz37).trans x37)]; rfl, by rw [cell_of_row W' _ 2 _ _ _ ((hb.block _ hz7).trans x7)]; rfl⟩
      have HC := Lib.hid hcell
      have HN7 := Lib.hid ((HN.out.later (later_step HLR.out (below_step HA3.out HA3.out.size h37) |> fun _ => below_step HA3.out HA3.out.size h37)))
      have S7 := Lib.hid (SA.out.below hW7')
      have SB7 := Lib.hid (SB.out.below hW7')
      have L7 := Lib.hid hW7'
      have hd0 : Later W7 W7.drew := (Below.refl _ _).drew
      clear hW7 h47 x7 hz7 x3 h37 hW7' x37 hz37 hcell b1 b2 b3 b4 b5 d1 hown3 hown4 hb3 hb4 HN SA SB HLR HL3 HA3
      simp only [List.append_eq, List.cons_append, List.nil_append]
      go_region_held3 (fun W' => W'.cell? ⟨w.heap.size, 1, none⟩ = some (.int .i64 k) ∧ W'.cell? ⟨w.heap.size, 2, none⟩ = some (.int .i64 f) ∧ W'.cell? ⟨w.heap.size, 3, none⟩ = some (.int .i64 t) ∧ W'.cell? ⟨w.heap.size, 4, none⟩ = some (.slice A bs.length c) ∧ W'.cell? ⟨w.heap.size, 5, none⟩ = some (.slice B ids.length d) ∧ W'.cell? ⟨w3.heap.size, 2, none⟩ = some (.slice A3 0 c3) ∧ W'.cell? ⟨w4.heap.size, 2, none⟩ = some (.slice A4 0 c4)) (first
          | exact HC.out _ (by assumption)
          | fail)
        (first
          | (go_at_call 15; refine (len_none _ (HN7.out.later (by assumption))).mono ?_; rintro e w' ⟨rfl, rfl⟩)
          | (go_at_call 24; refine (clear_none _ (HN7.out.later (by assumption))).mono ?_; rintro e w' ⟨rfl, rfl⟩)
          | (go_at_call 9; refine (num_any _ _).mono ?_; rintro e w' ⟨rfl, rfl⟩)
          | (go_at_call 12; refine (lawOwn_any f t A bs c _ hc hl (S7.out.below (by assumption))).mono ?_; rintro e w9 ⟨A9, c9, rfl, hown9, hb9⟩; have hL9 : Later W7 w9 := later_step (by assumption) hb9)
          | (go_at_call 11; refine (send_none f t _ _ _ _ (HN7.out.later (by assumption))).mono ?_; rintro e w9 ⟨rfl, hb9⟩; have hL9 : Later W7 w9 := later_step (by assumption) hb9)
          | (go_at_call 17; refine (lose_none k _ (HN7.out.later (by assumption))).mono ?_; rintro e w' ⟨rfl, rfl⟩)
          | (go_at_call 18; refine (double_none k _ (HN7.out.later (by assumption))).mono ?_; rintro e w9 ⟨rfl, hb9⟩; have hL9 : Later W7 w9 := later_step (by assumption) hb9)
          | (go_at_call 19; refine (wall_none B d ids _ (HN7.out.later (by assumption)) (by omega) (SB7.out.below (by assumption))).mono ?_; rintro e w9 ⟨rfl, hb9⟩; have hL9 : Later W7 w9 := later_step (by assumption) hb9)
          | (go_at_call 21; refine (open_none f t _ _ _ _ (HN7.out.later (by assumption))).mono ?_; rintro e w9 ⟨rfl, hb9⟩; have hL9 : Later W7 w9 := later_step (by assumption) hb9)
          | (go_at_call 20; refine (next_none _ _ (HN7.out.later (by assumption))).mono ?_; rintro e w' ⟨rfl, rfl⟩)
          | fail)
      go_wp2
      go_roundg (2 - (j + 1))
      case measure => omega
      case rel =>
        refine ⟨j + 1, by omega, rfl, by go_num, isNone_zero (cell_of_row _ _ 0 _ _ _ (heap_alloc_new _ _)), ?_⟩
        have hlw := later_step L7.out ‹Later W7 _›
        exact hlw.alloc hlw.size _
    · have hji : ¬ ((j : Int) < 2) := by omega
      have hK := knows_any wr
      go_wp2_with (first
        | (go_at_call 10; refine hK.mono ?_; rintro e w9 ⟨rfl, hb9⟩)
        | fail)
      go_ret
      exact ⟨rfl, below_step (below_step HAL.out HAL.out.size HLR.out) (below_step HAL.out HAL.out.size HLR.out).size hb9⟩
end Go.Proofs.Ytfhmdphcgcmaeaa
