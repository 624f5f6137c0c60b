/-
  The reference's Put.
-/
import Derived.Test.YtbnbeailbhnbdaaMod2
set_option linter.unusedVariables false
set_option linter.unusedSimpArgs false
namespace Go.Proofs.Ytbnbeailbhnbdaa
open Go.RowKit

set_option maxHeartbeats 4000000 in
theorem refput_any {S : Nat → Prop} {g first : Nat} {l : List (List UInt8)} (A : Option Addr) (bs : List UInt8) (c : Nat) (w : World) (h : ModAt 28 S g first l w) (hf : first ≤ 140737488355328) (hl : l.length ≤ 4398046511104) (hc : bs.length ≤ c) (hbl : bs.length ≤ 140737488355328) (hA : Sees w A (u8s bs)) :
    Calls Try.prog 12 #[.pointer (some ⟨g, 0, none⟩), .slice A bs.length c] w (RetMod 28 S g first (l ++ [bs]) ((first + l.length : Nat) : Int) w) := by
  obtain ⟨R, cr, cells, h1, h2, h3, h4, h5⟩ := id h
  obtain ⟨k0, k1, kf⟩ := mod_cells h1
  have hgl := (Array.getElem?_eq_some_iff.1 h1).1
  have hS : ∀ W', Below w.heap.size w W' → W'.cell? ⟨g, 1, none⟩ = some (.slice R l.length cr) := fun W' hb => (hb.cell (World.block_lt_of_cell? _ _ k1)).trans k1
  have hba0 : Below w.heap.size w (w.alloc (.cells #[] 5)).drew := ((Below.refl w.heap.size w).alloc (Nat.le_refl _) _).drew
  have k2 := hS w.drew (Below.refl _ _).drew
  have k3 := hS _ hba0
  have hn1 := Lib.hid h
  go_enter Try.func12, Try.ntmps12
  go_wp2_with fail
  go_region_law
    (first
      | (refine step_append_sees rfl (.tmp 10) (.tmp 11) 30 (by rfl) w.heap.size 5 (.int .u8 0) 1 1 Try.underlying30 infoU8 rfl (by decide) (.slice (some ⟨w.heap.size, 0, none⟩) 0 0) 0 [] (by rfl) (by exact own_made0 w _ 1) A bs.length c (u8s bs) (by rfl) (by simp [u8s]) (by exact hA.below hba0) (u8s_one _) (by simp only [maxLen]; omega) (by omega) (by simp) ?_; intro A4 c4 w4 hown4' hg4 hat4; have hb4 : Below w.heap.size w w4 := below_grown_own hba0 (by simp) (own_made0 w 5 1) (Nat.le_refl _) hg4; have hown4 : w4.ownsRow w.heap.size 5 1 (.slice A4 bs.length c4) bs.length (u8s bs) := (by simpa using hown4'); have k4 := hS w4 hb4; have k5 := hS _ (hb4.alloc hb4.size (.cells #[.slice A4 bs.length c4] 30)))
      | (refine step_append_q rfl (.tmp 9) (.tmp 13) 26 (by rfl) 0 30 (.slice none 0 0) 1 24 Try.underlying26 infoBytes rfl (by decide) (.slice R l.length cr) l.length cells (by rfl) (by exact (h3.keep hb4).keep ((Below.refl _ _).alloc (Nat.le_refl _) _)) ⟨w4.heap.size, 0, none⟩ 1 1 [.slice A4 bs.length c4] (by rfl) (by rfl) (by exact sees_new _ _ _) (by simp [Value.oneCell']) (by decide) (by simp only [maxLen]; omega) (by omega) (Nat.zero_le _) ?_; intro A6 c6 w6 hown6 hg6 hat6; have hba := hb4.alloc hb4.size (.cells #[.slice A4 bs.length c4] 30); have hza := hba.size; have z1 : w6.heap[g]? = some (modObj 28 first R l.length cr) := (hg6.block g (Nat.lt_of_lt_of_le hgl hza) (fun e => q_apart h3 h1 (by decide) e.symm)).trans ((hba.block g hgl).trans h1); have z2 := (mod_cells z1).2.1; have z3 := (mod_cells z1).2.2 1)
      | fail)
  all_goals (have hd := put_done h1 h2 h3 h4 h5 (by decide) (by decide) (Below.refl _ _) hb4 hown4 hown6 hg6 hat6 z1)
  all_goals (have HD := Lib.hid hd; clear hd h1 h2 h3 h4 h5 k0 k1 k2 k3 k4 k5 kf hS hown4 hown4' hown6 hb4 hg4 hat4 hg6 hat6 hba hza z1 z2 z3 hA hba0)
  all_goals go_wp2_with (first
    | (go_at_call 20; refine (refnext_any _ HD.out.1 hf (by simp only [List.length_append, List.length_cons, List.length_nil]; omega)).mono ?_; rintro e w7 ⟨rfl, hb7⟩; rw [show ((first + (l ++ [bs]).length : Nat) : Int) = ((first + l.length : Nat) : Int) + 1 by simp only [List.length_append, List.length_cons, List.length_nil]; omega])
    | fail)
  all_goals go_ret
  all_goals (refine ⟨by simp, HD.out.1.below hb7, HD.out.2.trans (Outside.of_below hb7) (fun b _ hb => hb)⟩)
end Go.Proofs.Ytbnbeailbhnbdaa
