/-
  The law's 'knows'.
-/
import Derived.Test.YtfhmdphcgcmaeaaNetL1
set_option linter.unusedVariables false
set_option linter.unusedSimpArgs false
namespace Go.Proofs.Ytfhmdphcgcmaeaa
open Go.RowKit

/-- The blocks that lie behind B. -/
def From (B b : Nat) : Prop := B ≤ b
theorem From.plus {B : Nat} {w : World} (h : B ≤ w.heap.size) : ∀ b, Plus (From B) w b → From B b := fun b hb => hb.elim id (fun h2 => Nat.le_trans h h2)
theorem Outside.from {B : Nat} {w w1 w2 : World} (hb : Below B w w1) (hB : B ≤ w1.heap.size) (h : Outside (From B) w1 w2) : Below B w w2 := hb.trans (h.below (fun _ h => h) hB)
theorem Fit.nil {m : Int} (h1 : 1 ≤ m) (h2 : m ≤ 10000) : Fit m [] := ⟨h1, h2, by simp; omega, by simp⟩
def l07 : Lt := (0, 1, [7])
theorem fit5 : Fit 5 [l07] := ⟨by decide, by decide, by decide, by decide⟩
set_option maxHeartbeats 2000000 in
theorem knows_any (w : World) : Calls Try.prog 10 #[] w (RetBool w true) := by
  go_enter Try.func10, Try.ntmps10
  go_wp2_with fail
  refine (new_ok 5 w (by decide) (by decide)).mono ?_
  rintro e w1 ⟨rfl, hn1, hb1⟩
  have hB1 := hb1
  have hz1 := hb1.size
  go_wp2_with fail
  have ha1 := hb1.alloc hz1 (.cells #[.int .u8 7] 5)
  refine (send_any 0 1 _ [7] 1 _ (hn1.below ((Below.refl _ _).alloc (Nat.le_refl _) _)) (by decide) (by decide) (by decide) (Nat.le_refl _) (by decide) (sees_new _ #[.int .u8 7] _)).mono ?_
  rintro e w2 ⟨rfl, hn2, ho2⟩
  have e2 : sendE 5 ([] : List Lt).length (0, 1, [7]) = 0 := by decide
  rw [e2] at hn2 ⊢
  have m2 : NetAt (From w.heap.size) w.heap.size 5 [l07] open16 w2 := hn2.mono (From.plus ha1.size)
  have hb2 := Outside.from ha1 ha1.size ho2
  clear hn2 hn1 hb1 hz1 ha1 ho2 e2 hB1
  go_wp2_with fail
  have ha2 := hb2.alloc hb2.size (.cells #[.int .i64 1] 3)
  refine (wall_any _ 1 [1] _ (m2.below ((Below.refl _ _).alloc (Nat.le_refl _) _)) (by decide) (Nat.le_refl _) (by decide) (sees_new _ #[.int .i64 1] _)).mono ?_
  rintro e w3 ⟨rfl, hn3, ho3⟩
  have e3 : wallE [1] = 0 := by decide
  rw [e3] at hn3 ⊢
  have m3 : NetAt (From w.heap.size) w.heap.size 5 [l07] (wallL [1]) w3 := hn3.mono (From.plus ha2.size)
  have hb3 := Outside.from ha2 ha2.size ho3
  clear hn3 m2 hb2 ha2 ho3 e3
  go_wp2_with fail
  refine (take_any 0 _ m3 fit5).mono ?_
  rintro e w4 ⟨⟨A4, c4, rfl, _⟩, hn4, ho4⟩
  have e4 : takeE (wallL [1]) [l07] 0 = 31 := by decide
  have e4' : takeL (wallL [1]) [l07] 0 = (0, 0, []) := by decide
  have e4'' : takeN (wallL [1]) [l07] 0 = [l07] := by decide
  rw [e4''] at hn4
  rw [e4, e4']
  have m4 : NetAt (From w.heap.size) w.heap.size 5 [l07] (wallL [1]) w4 := hn4.mono (From.plus hb3.size)
  have hb4 := Outside.from hb3 hb3.size ho4
  clear hn4 m3 hb3 ho4 e4 e4' e4''
  go_wp2_with fail
  have ha4 := hb4.alloc hb4.size (.cells #[.int .i64 0, .int .i64 0, .slice A4 0 c4] 33)
  refine (wall_any none 0 [] _ (m4.below ((Below.refl _ _).alloc (Nat.le_refl _) _)) (by decide) (Nat.le_refl _) (by decide) (Sees.nil _ _)).mono ?_
  rintro e w5 ⟨rfl, hn5, ho5⟩
  have e5 : wallE [] = 0 := by decide
  rw [e5] at hn5 ⊢
  have m5 : NetAt (From w.heap.size) w.heap.size 5 [l07] open16 w5 := hn5.mono (From.plus ha4.size)
  have hb5 := Outside.from ha4 ha4.size ho5
  clear hn5 m4 hb4 ha4 ho5 e5
  go_wp2_with fail
  refine (take_any 0 _ m5 fit5).mono ?_
  rintro e w6 ⟨⟨A6, c6, rfl, _⟩, hn6, ho6⟩
  have e6 : takeE open16 [l07] 0 = 0 := by decide
  have e6' : takeL open16 [l07] 0 = (0, 1, [7]) := by decide
  rw [e6, e6']
  have hb6 := Outside.from hb5 hb5.size ho6
  have hb7 := hb6.alloc hb6.size (.cells #[.int .i64 0, .int .i64 1, .slice A6 1 c6] 33)
  clear m5 hb5 ho6 e6 e6' hn6
  have HB := Lib.hid hb7
  clear hb6 hb7
  go_wp2_with (first
    | (go_at_call 9; refine (num_any _ _).mono ?_; rintro e w' ⟨rfl, rfl⟩)
    | fail)
  go_ret
  exact ⟨rfl, HB.out⟩
end Go.Proofs.Ytfhmdphcgcmaeaa
