/-
  Package raft: which options may be.
-/
import Derived.Test.YtoongmoajnedlaaGreatProg
import Derived.Test.YtoongmoajnedlaaGreatLib
import Derived.Test.YtoongmoajnedlaaGreatRet
import Derived.Test.YtoongmoajnedlaaGreatOut
import Derived.Test.YtoongmoajnedlaaGreatRowK
import Derived.RegionTactic
import Derived.BigRegion
import Derived.Deep.CutRange
import Derived.BigQuiet
set_option linter.unusedVariables false
set_option linter.unusedSimpArgs false
namespace Go.Proofs.YtoongmoajnedlaaGreat
open Go.RowKit

def optB (l b c : Int) : Bool := decide (2 ≤ l) && (decide (l ≤ 1000) && (decide (1 ≤ b) && (decide (b < l) && (decide (1 ≤ c) && decide (c ≤ 60000)))))
theorem optB_iff {l b c : Int} : optB l b c = true ↔ 2 ≤ l ∧ l ≤ 1000 ∧ 1 ≤ b ∧ b < l ∧ 1 ≤ c ∧ c ≤ 60000 := by
  unfold optB
  simp only [Bool.and_eq_true, decide_eq_true_eq]
theorem optB_bad {l b c : Int} (h : ¬ (2 ≤ l ∧ l ≤ 1000 ∧ 1 ≤ b ∧ b < l ∧ 1 ≤ c ∧ c ≤ 60000)) : optB l b c = false := by
  cases h9 : optB l b c
  · rfl
  · exact absurd (optB_iff.1 h9) h
set_option maxRecDepth 16384 in
set_option maxHeartbeats 4000000 in
theorem opt_any (l b c : Int) (w : World) : Calls Tryz.prog 83 #[.agg #[.int .i64 l, .int .i64 b, .int .i64 c]] w (RetBool w (optB l b c)) := by
  have hal : Below w.heap.size w (w.alloc (.cells #[.int .i64 l, .int .i64 b, .int .i64 c] 78)) := (Below.refl _ _).alloc (Nat.le_refl _) _
  have HAL := Lib.hid hal
  clear hal
  go_enter Tryz.func83, Tryz.ntmps83
  go_wp2_with fail
  all_goals go_ret
  all_goals first
    | exact ⟨by rw [show optB l b c = decide (c ≤ 60000) from by unfold optB; simp [*]]; rfl, HAL.out⟩
    | exact ⟨by rw [optB_bad (by omega)]; rfl, HAL.out⟩
set_option maxRecDepth 16384 in
set_option maxHeartbeats 4000000 in
theorem refopt_any (l b c : Int) (w : World) : Calls Tryz.prog 35 #[.agg #[.int .i64 l, .int .i64 b, .int .i64 c]] w (RetBool w (optB l b c)) := by
  have hal : Below w.heap.size w (w.alloc (.cells #[.int .i64 l, .int .i64 b, .int .i64 c] 65)) := (Below.refl _ _).alloc (Nat.le_refl _) _
  have HAL := Lib.hid hal
  clear hal
  go_enter Tryz.func35, Tryz.ntmps35
  go_wp2_with fail
  all_goals go_ret
  all_goals first
    | exact ⟨by rw [show optB l b c = decide (c ≤ 60000) from by unfold optB; simp [*]]; rfl, HAL.out⟩
    | exact ⟨by rw [optB_bad (by omega)]; rfl, HAL.out⟩
end Go.Proofs.YtoongmoajnedlaaGreat
/-
  Package timer.
-/
set_option linter.unusedVariables false
set_option linter.unusedSimpArgs false
namespace Go.Proofs.YtoongmoajnedlaaGreat
open Go.RowKit

/-- A timer that was made, in block g: ticks, its limit, the least limit. -/
def TimerAt (W : World) (g : Nat) (n lim least : Int) : Prop := W.heap[g]? = some (.cells #[.int .i64 n, .int .i64 lim, .int .i64 least] 178 (0, 0))
section
variable {W W' : World} {g : Nat} {n lim least : Int}
theorem TimerAt.cells (h : TimerAt W g n lim least) : W.cell? ⟨g, 0, none⟩ = some (.int .i64 n) ∧ W.cell? ⟨g, 1, none⟩ = some (.int .i64 lim) ∧ W.cell? ⟨g, 2, none⟩ = some (.int .i64 least) ∧ ∀ j, W.frozen? ⟨g, j, none⟩ = false :=
  ⟨by rw [cell_of_row _ _ 0 _ _ _ h]; rfl, by rw [cell_of_row _ _ 1 _ _ _ h]; rfl, by rw [cell_of_row _ _ 2 _ _ _ h]; rfl, fun j => by unfold TimerAt at h; simp [World.frozen?, h]⟩
theorem TimerAt.set01 (h : TimerAt W g n lim least) (a b : Int) : TimerAt ((W.setCell ⟨g, 0, none⟩ (.int .i64 a)).setCell ⟨g, 1, none⟩ (.int .i64 b)) g a b least := by
  unfold TimerAt at *
  simp [World.setCell, Array.getElem?_modify, h]
theorem TimerAt.set0 (h : TimerAt W g n lim least) (a : Int) : TimerAt (W.setCell ⟨g, 0, none⟩ (.int .i64 a)) g a lim least := by
  unfold TimerAt at *
  simp [World.setCell, Array.getElem?_modify, h]
theorem TimerAt.drew (h : TimerAt W g n lim least) : TimerAt W.drew g n lim least := h
end
def limitV (least draw : Int) : Int := least + (draw.tmod least + least).tmod least
theorem limitV_bounds {least draw : Int} (h : 1 ≤ least) : least ≤ limitV least draw ∧ limitV least draw < 2 * least := by
  unfold limitV
  have h1 : 0 ≤ draw.tmod least + least := by
    have := Int.lt_tmod_of_pos draw (show 0 < least by omega)
    omega
  rw [Int.tmod_eq_emod_of_nonneg h1]
  have h2 := Int.emod_nonneg (draw.tmod least + least) (show least ≠ 0 by omega)
  have h3 := Int.emod_lt_of_pos (draw.tmod least + least) (show 0 < least by omega)
  omega
theorem tnone_any (g : Nat) (n lim least : Int) (w : World) (h : TimerAt w g n lim least) (hl : 1 ≤ least) : Calls Tryz.prog 121 #[.pointer (some ⟨g, 0, none⟩)] w fun e w' => e = .returned (.bool false) ∧ w = w' := by
  obtain ⟨c0, c1, c2, cf⟩ := h.cells
  have hl0 : (least == 0) = false := by simp; omega
  clear h
  go_enter Tryz.func121, Tryz.ntmps121
  go_wp2_with fail
  go_ret
  exact ⟨rfl, rfl⟩
def RetReset (g : Nat) (lim least : Int) (w : World) (e : Ending) (w' : World) : Prop := e = .returned (.int .i64 0) ∧ TimerAt w' g 0 lim least ∧ Outside (· = g) w w'
set_option maxHeartbeats 2000000 in
theorem reset_any (g : Nat) (n lim least draw : Int) (w : World) (h : TimerAt w g n lim least) (hl : 1 ≤ least) (hl2 : least ≤ 1000) : Calls Tryz.prog 55 #[.pointer (some ⟨g, 0, none⟩), .int .i64 draw] w (RetReset g (limitV least draw) least w) := by
  have hb := limitV_bounds (draw := draw) hl
  have a1 := Int.tmod_lt_of_pos draw (show 0 < least by omega)
  have a2 := Int.lt_tmod_of_pos draw (show 0 < least by omega)
  obtain ⟨c0, c1, c2, cf⟩ := h.cells
  have HN := Lib.hid (tnone_any g n lim least w h hl)
  have HT := Lib.hid h
  obtain ⟨s, hs⟩ : ∃ s, draw.tmod least = s := ⟨_, rfl⟩
  unfold limitV at hb ⊢
  rw [hs] at hb a1 a2 ⊢
  have e1 : IntKind.i64.wrap (s + least) = s + least := IntWalk.i64_in _ (by omega)
  obtain ⟨t, ht⟩ : ∃ t, (s + least).tmod least = t := ⟨_, rfl⟩
  rw [ht] at hb ⊢
  have e2 : IntKind.i64.wrap (least + t) = least + t := IntWalk.i64_in _ (by omega)
  have f0 := cf 0
  have f1 := cf 1
  have hl0 : (least == 0) = false := by simp; omega
  have hl1 : ¬ least = 0 := by omega
  clear h cf hb
  go_enter Tryz.func55, Tryz.ntmps55
  go_upto_region 3 with (first
    | (go_at_call 121; refine HN.out.mono ?_; rintro e w2 ⟨rfl, rfl⟩)
    | fail)
  go_region
  all_goals go_wp2_with fail
  all_goals go_ret
  all_goals exact ⟨rfl, (HT.out.set01 0 (least + t)).drew, (((Outside.refl (· = g) w).set ⟨g, 0, none⟩ _ (.inr rfl)).set ⟨g, 1, none⟩ _ (.inr rfl)).drew⟩
def RetTick (g : Nat) (n lim least : Int) (w : World) (e : Ending) (w' : World) : Prop := e = .returned (.bool (min (n + 1) lim == lim)) ∧ TimerAt w' g (min (n + 1) lim) lim least ∧ Outside (· = g) w w'
set_option maxHeartbeats 2000000 in
theorem up_any (g : Nat) (n lim least : Int) (w : World) (h : TimerAt w g n lim least) (hn : 0 ≤ n) (hn2 : n ≤ 1000000) : Calls Tryz.prog 122 #[.pointer (some ⟨g, 0, none⟩)] w (RetTick g n lim least w) := by
  obtain ⟨c0, c1, c2, cf⟩ := h.cells
  have HT := Lib.hid h
  have e1 : IntKind.i64.wrap (n + 1) = n + 1 := IntWalk.i64_in _ (by omega)
  have f0 := cf 0
  obtain ⟨m, hm⟩ : ∃ m, min (n + 1) lim = m := ⟨_, rfl⟩
  rw [show RetTick g n lim least w = fun e w' => e = .returned (.bool (m == lim)) ∧ TimerAt w' g m lim least ∧ Outside (· = g) w w' from by unfold RetTick; rw [hm]]
  have HM : Hid ((if lim < n + 1 then lim else n + 1) = m) := Lib.hid (by rw [← hm]; split <;> omega)
  clear h cf hm
  go_enter Tryz.func122, Tryz.ntmps122
  go_upto_region 1 with fail
  go_cut [] from 3 to 15 (fun wc => TimerAt wc g m lim least ∧ Outside (· = g) w wc)
  case first =>
    go_region
    all_goals rw [HM.out]
    all_goals go_wp2_with fail
    all_goals go_meet
    all_goals exact ⟨(HT.out.set0 m).drew, ((Outside.refl (· = g) w).set ⟨g, 0, none⟩ _ (.inr rfl)).drew⟩
  case rest =>
    obtain ⟨hT, hO⟩ := hcut
    obtain ⟨d0, d1, _, _⟩ := hT.cells
    have HTT := Lib.hid hT
    have HOO := Lib.hid hO
    clear hT hO c0 c1 c2 f0
    go_upto_region 2 with fail
    go_quiet (fail)
    go_wp2_with fail
    go_ret
    exact ⟨rfl, HTT.out, HOO.out.trans ⟨rfl, rfl, rfl, Nat.le_refl _, fun _ _ _ => rfl⟩ (fun b _ hb => hb)⟩
def RetTnew (least draw : Int) (w : World) (e : Ending) (w' : World) : Prop := ∃ g, e = .returned (.tuple #[.pointer (some ⟨g, 0, none⟩), .int .i64 0]) ∧ w.heap.size ≤ g ∧ TimerAt w' g 0 (limitV least draw) least ∧ Below w.heap.size w w'
set_option maxHeartbeats 2000000 in
theorem ttick_any (g : Nat) (n lim least : Int) (w : World) (h : TimerAt w g n lim least) (hl : 1 ≤ least) (hn : 0 ≤ n) (hn2 : n ≤ 1000000) : Calls Tryz.prog 54 #[.pointer (some ⟨g, 0, none⟩)] w (RetTick g n lim least w) := by
  have HN := Lib.hid (tnone_any g n lim least w h hl)
  have HU := Lib.hid (up_any g n lim least w h hn hn2)
  clear h
  go_enter Tryz.func54, Tryz.ntmps54
  go_wp2_with (first
    | (go_at_call 121; refine HN.out.mono ?_; rintro e w2 ⟨rfl, rfl⟩)
    | (go_at_call 122; refine HU.out.mono ?_; rintro e w3 ⟨rfl, h3, h4⟩; have H3 := Lib.hid h3; have H4 := Lib.hid h4; clear h3 h4)
    | fail)
  go_ret
  exact ⟨rfl, H3.out, H4.out⟩
theorem tnew_any (least draw : Int) (w : World) (h1 : 1 ≤ least) (h2 : least ≤ 1000) : Calls Tryz.prog 85 #[.int .i64 least, .int .i64 draw] w (RetTnew least draw w) := by
  obtain ⟨W, hW⟩ : ∃ W, w.alloc (.cells #[.int .i64 0, .int .i64 0, .int .i64 least] 178) = W := ⟨_, rfl⟩
  have hb : Below w.heap.size w W := by rw [← hW]; exact (Below.refl _ _).alloc (Nat.le_refl _) _
  have ht : TimerAt W w.heap.size 0 0 least := by rw [← hW]; exact heap_alloc_new w _
  have HR := Lib.hid (reset_any w.heap.size 0 0 least draw W ht h1 h2)
  have g1 : ¬ least < 1 := by omega
  have g2 : ¬ (1000 : Int) < least := by omega
  have HB := Lib.hid hb
  have HW := Lib.hid hW
  clear hb ht hW
  go_enter Tryz.func85, Tryz.ntmps85
  go_upto_region 4 with fail
  rw [HW.out]
  go_wp2_with (first
    | (go_at_call 55; refine HR.out.mono ?_; rintro e w2 ⟨rfl, h3, h4⟩; have H3 := Lib.hid h3; have H4 := Lib.hid h4; clear h3 h4)
    | fail)
  go_ret2
  exact ⟨w.heap.size, rfl, Nat.le_refl _, H3.out, HB.out.trans (H4.out.below (fun b hb => by rw [hb]; exact Nat.le_refl _) HB.out.size)⟩
end Go.Proofs.YtoongmoajnedlaaGreat
