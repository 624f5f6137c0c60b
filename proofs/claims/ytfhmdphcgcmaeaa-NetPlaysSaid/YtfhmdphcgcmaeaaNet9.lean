/-
  Package net: Take.
-/
import Derived.Test.YtfhmdphcgcmaeaaNet8
set_option linter.unusedVariables false
set_option linter.unusedSimpArgs false
namespace Go.Proofs.Ytfhmdphcgcmaeaa
open Go.RowKit

def takeE (wl : List Bool) (ls : List Lt) (k : Int) : Int := if atE k ls.length = 0 then (if openL wl (lookL ls k) = true then 0 else 31) else atE k ls.length
def takeL (wl : List Bool) (ls : List Lt) (k : Int) : Lt := if takeE wl ls k = 0 then lookL ls k else (0, 0, [])
def takeN (wl : List Bool) (ls : List Lt) (k : Int) : List Lt := if takeE wl ls k = 0 then ls.eraseIdx k.toNat else ls
theorem lookL_bytes {most : Int} {ls : List Lt} (hf : Fit most ls) (k : Int) : (lookL ls k).2.2.length ≤ 1048576 := by
  unfold lookL
  split
  · simp
  · rename_i hk
    have hk' : k.toNat < ls.length := by omega
    rw [List.getD_eq_getElem?_getD, List.getElem?_eq_getElem hk']
    exact hf.bytes _ (List.getElem_mem hk')
theorem set3 {w : World} {b : Nat} {T : TypeId} {a0 a1 a2 : Value} (h : w.heap[b]? = some (.cells #[a0, a1, a2] T (0, 0))) (v0 v1 v2 : Value) : (((w.setCell ⟨b, 0, none⟩ v0).setCell ⟨b, 1, none⟩ v1).setCell ⟨b, 2, none⟩ v2).heap[b]? = some (.cells #[v0, v1, v2] T (0, 0)) := by
  simp [World.setCell, Array.getElem?_modify, h]
theorem below_set3 {w w1 : World} {B b : Nat} (h : Below B w w1) (hb : B ≤ b) (v0 v1 v2 : Value) : Below B w (((w1.setCell ⟨b, 0, none⟩ v0).setCell ⟨b, 1, none⟩ v1).setCell ⟨b, 2, none⟩ v2) :=
  ((h.setCell hb _).setCell hb _).setCell hb _
/-- S, as far as there are blocks. -/
def Cut (S : Nat → Prop) (w : World) (b : Nat) : Prop := S b ∧ b < w.heap.size
theorem NetAt.cut {S : Nat → Prop} {g : Nat} {most : Int} {ls : List Lt} {wl : List Bool} {W : World} (h : NetAt S g most ls wl W) : NetAt (Cut S W) g most ls wl W := by
  obtain ⟨A, c, cells, h1, h2, h3, h4, h5, h6⟩ := h
  refine ⟨A, c, cells, h1, h2, ⟨h3, (Array.getElem?_eq_some_iff.1 h1).1⟩, h4, fun b hb => ⟨h5 b hb, (own_block_ge h4 b hb).2⟩, h6.imp fun j l cs _ hl => ?_⟩
  obtain ⟨A1, c1, e, ho, hs⟩ := hl
  exact ⟨A1, c1, e, ho, fun b hb => ⟨hs b hb, (own_block_ge ho b hb).2⟩⟩
theorem Outside.mono {S T : Nat → Prop} {W W' : World} (h : Outside S W W') (hT : ∀ b, b < W.heap.size → S b → T b) : Outside T W W' := ⟨h.os, h.tape, h.output, h.size, fun b hb hs => h.block b hb (fun h' => hs (hT b hb h'))⟩
theorem Cut.not {S : Nat → Prop} {w : World} {b : Nat} (h : w.heap.size ≤ b) : ¬ Cut S w b := fun h' => Nat.lt_irrefl _ (Nat.lt_of_lt_of_le h'.2 h)
theorem Cut.plus {S : Nat → Prop} {w w1 : World} (h : w.heap.size ≤ w1.heap.size) : ∀ b, Plus (Cut S w) w1 b → Plus S w b := fun b hb => hb.imp (fun h' => h'.1) (fun h2 => Nat.le_trans h h2)
theorem Outside.set {S : Nat → Prop} {W W' : World} (h : Outside S W W') (p : Addr) (v : Value) (hp : W.heap.size ≤ p.block ∨ S p.block) : Outside S W (W'.setCell p v) :=
  ⟨h.os, h.tape, h.output, by simpa [World.setCell] using h.size, fun b hb hs => (Below.heap_setCell W' p v b (fun e => by subst e; rcases hp with hp | hp; exact absurd hb (by omega); exact hs hp)).trans (h.block b hb hs)⟩
theorem Outside.drew {S : Nat → Prop} {W W' : World} (h : Outside S W W') : Outside S W W'.drew := ⟨h.os, h.tape, h.output, h.size, h.block⟩
set_option maxHeartbeats 2000000 in
theorem take_any {S : Nat → Prop} {g : Nat} {most : Int} {ls : List Lt} {wl : List Bool} (k : Int) (w : World) (h : NetAt S g most ls wl w) (hf : Fit most ls) :
    Calls Try.prog 13 #[.pointer (some ⟨g, 0, none⟩), .int .i64 k] w (RetTake S g most (takeL wl ls k) (takeE wl ls k) (takeN wl ls k) wl w) := by
  have hlo := hf.lo
  have hbl := lookL_bytes hf k
  obtain ⟨W, hW⟩ : ∃ W, w.alloc (.cells #[.int .i64 0, .int .i64 0, .slice none 0 0] 33) = W := ⟨_, rfl⟩
  have hal : Below w.heap.size w W := by rw [← hW]; exact (Below.refl w.heap.size w).alloc (Nat.le_refl _) _
  have x0 : W.heap[w.heap.size]? = some (.cells #[.int .i64 0, .int .i64 0, .slice none 0 0] 33 (0, 0)) := by rw [← hW]; exact heap_alloc_new w _
  have hz : W.heap.size = w.heap.size + 1 := by rw [← hW]; simp
  have hN := h.below hal
  have HL := Lib.hid (look_any k W hN (by omega) hf.bytes)
  have H := Lib.hid hN
  have H0 := Lib.hid h
  have HF := Lib.hid hf
  have HW := Lib.hid hW
  clear hW hN h hf
  by_cases ha : atE k ls.length = 0
  · by_cases ho : openL wl (lookL ls k) = true
    · have he : takeE wl ls k = 0 := by unfold takeE; rw [if_pos ha, if_pos ho]
      have hl : takeL wl ls k = lookL ls k := by unfold takeL; rw [if_pos he]
      have hn : takeN wl ls k = ls.eraseIdx k.toNat := by unfold takeN; rw [if_pos he]
      rw [he, hl, hn]
      obtain ⟨l, hll⟩ : ∃ l, lookL ls k = l := ⟨_, rfl⟩
      rw [hll] at ho hbl ⊢
      have ho' : openB wl l.1 l.2.1 l.2.2.length = true := by simpa [openL] using ho
      have HO := Lib.hid ho'
      have HA := Lib.hid ha
      rw [ha, hll] at HL
      clear ha he hl hn hll ho ho'
      go_enter Try.func13, Try.ntmps13
      go_wp2_with (first
        | (go_at_call 16; rw [HW.out]; refine HL.out.mono ?_; rintro e w3 ⟨A3, c3, rfl, hown3, hb3⟩; have hB := hb3.alloc hb3.size (.cells #[.int .i64 l.1, .int .i64 l.2.1, .slice A3 l.2.2.length c3] 33))
        | (go_at_call 21; refine (open_any l.1 l.2.1 A3 l.2.2.length c3 _ (H.out.below hB) (by omega) (by omega)).mono ?_; rintro e w4 ⟨rfl, hb4⟩; rw [HO.out]; have hB4 := below_step hB hB.size hb4)
        | fail)
      have hB5 := below_step hal hal.size hB4
      have hN4 : NetAt (Cut S w) g most ls wl w4.drew := (H0.out.cut.below hB5).below (Below.refl _ _).drew
      have y0 : w4.drew.heap[w.heap.size]? = some (.cells #[.int .i64 0, .int .i64 0, .slice none 0 0] 33 (0, 0)) := (hB4.block w.heap.size (by omega)).trans x0
      have xb : (w3.alloc (.cells #[.int .i64 l.1, .int .i64 l.2.1, .slice A3 l.2.2.length c3] 33)).heap[w3.heap.size]? = some (.cells #[.int .i64 l.1, .int .i64 l.2.1, .slice A3 l.2.2.length c3] 33 (0, 0)) := heap_alloc_new w3 _
      have yb : w4.drew.heap[w3.heap.size]? = some (.cells #[.int .i64 l.1, .int .i64 l.2.1, .slice A3 l.2.2.length c3] 33 (0, 0)) := (hb4.block w3.heap.size (by simp)).trans xb
      have d0 := cell_of_row _ _ 0 _ _ _ yb
      have d1 := cell_of_row _ _ 1 _ _ _ yb
      have d2 := cell_of_row _ _ 2 _ _ _ yb
      simp at d0 d1 d2
      have hz3 : w.heap.size < w3.heap.size := by have := hb3.size; omega
      have hlose := lose_any k w4.drew hN4 (by omega)
      rw [HA.out, if_pos rfl] at hlose
      have HLO := Lib.hid hlose
      clear hlose hN4
      go_region_law (first
        | (go_simp; go_at_call 17; refine HLO.out.mono ?_; rintro e w5 ⟨rfl, hn5, ho5⟩; have z0 := (ho5.block w.heap.size (Array.getElem?_eq_some_iff.1 y0).1 (Cut.not (Nat.le_refl _))).trans y0; have zb := (ho5.block w3.heap.size (Array.getElem?_eq_some_iff.1 yb).1 (Cut.not (by omega))).trans yb; have e0 := cell_of_row w5 _ 0 _ _ _ zb; have e1 := cell_of_row w5 _ 1 _ _ _ zb; have e2 := cell_of_row w5 _ 2 _ _ _ zb; have r0 := cell_of_row w5 _ 0 _ _ _ z0; have r1 := cell_of_row w5 _ 1 _ _ _ z0; have r2 := cell_of_row w5 _ 2 _ _ _ z0; have rf := frozen_of_cells z0; simp at e0 e1 e2 r0 r1 r2)
        | fail)
      all_goals go_wp2
      all_goals (refine bodyPost_ret (results_row_tmp rfl _ _ w.heap.size _ _ _ _ rfl (set3 z0 _ _ _) Try.underlying33 rfl (by kernel_rfl)) rfl ?_)
      all_goals (
        have hz4 := hB4.size
        have hz5 := ho5.size
        have hsame : ∀ b, b ≠ w.heap.size → (((w5.setCell ⟨w.heap.size, 0, none⟩ (.int .i64 l.1)).setCell ⟨w.heap.size, 1, none⟩ (.int .i64 l.2.1)).setCell ⟨w.heap.size, 2, none⟩ (.slice A3 l.2.2.length c3)).heap[b]? = w5.heap[b]? := fun b hb => by
          rw [Below.heap_setCell _ _ _ b hb, Below.heap_setCell _ _ _ b hb, Below.heap_setCell _ _ _ b hb]
        refine ⟨⟨A3, c3, rfl, ?_⟩, ?_, ?_⟩
        · refine own_same (own_lower hown3 (by omega)) (fun b hb => ?_)
          have hbb := own_block_ge hown3 b hb
          rw [hsame b (by omega), ho5.block b (Nat.lt_of_lt_of_le (Nat.lt_of_lt_of_le hbb.2 (by simp)) hb4.size) (Cut.not (by omega))]
          exact (hb4.block b (by simp; omega)).trans (((Below.refl w3.heap.size w3).alloc (Nat.le_refl _) _).block b hbb.2)
        · refine (hn5.keep (fun b hb hs => hsame b ?_)).mono (Cut.plus hB5.size)
          rintro rfl
          rcases hs with hs | hs
          · exact Nat.lt_irrefl _ hs.2
          · have : w4.heap.size ≤ w.heap.size := hs
            have hz4' := hb4.size
            simp at hz4'
            omega
        · have hO : Outside S w w5 := (Outside.of_below hB5).drew.trans ho5 (fun b _ hb => hb.1)
          exact ((hO.set _ _ (.inl (Nat.le_refl _))).set _ _ (.inl (Nat.le_refl _))).set _ _ (.inl (Nat.le_refl _)))
    · have he : takeE wl ls k = 31 := by unfold takeE; rw [if_pos ha, if_neg ho]
      have hl : takeL wl ls k = (0, 0, []) := by unfold takeL; rw [if_neg (by rw [he]; decide)]
      have hn : takeN wl ls k = ls := by unfold takeN; rw [if_neg (by rw [he]; decide)]
      rw [he, hl, hn]
      obtain ⟨l, hll⟩ : ∃ l, lookL ls k = l := ⟨_, rfl⟩
      rw [hll] at ho hbl
      have ho' : openB wl l.1 l.2.1 l.2.2.length = false := by simpa [openL] using ho
      have HO := Lib.hid ho'
      rw [ha, hll] at HL
      clear ha he hl hn hll ho ho'
      go_enter Try.func13, Try.ntmps13
      go_wp2_with (first
        | (go_at_call 16; rw [HW.out]; refine HL.out.mono ?_; rintro e w3 ⟨A3, c3, rfl, hown3, hb3⟩; have hB := hb3.alloc hb3.size (.cells #[.int .i64 l.1, .int .i64 l.2.1, .slice A3 l.2.2.length c3] 33))
        | (go_at_call 21; refine (open_any l.1 l.2.1 A3 l.2.2.length c3 _ (H.out.below hB) (by omega) (by omega)).mono ?_; rintro e w4 ⟨rfl, hb4⟩; rw [HO.out]; have hB4 := below_step hB hB.size hb4; have y0 := (hB4.block w.heap.size (by omega)).trans x0; have c10 := cell_of_row w4 _ 0 _ _ _ y0; have c11 := cell_of_row w4 _ 1 _ _ _ y0; have c12 := cell_of_row w4 _ 2 _ _ _ y0; have f10 := frozen_of_cells y0; simp at c10 c11 c12)
        | fail)
      refine bodyPost_ret (results_row_tmp rfl _ _ w.heap.size _ _ _ _ rfl (set3 y0 _ _ _) Try.underlying33 rfl (by kernel_rfl)) rfl ?_
      have hB5 := below_set3 (below_step hal hal.size hB4) (Nat.le_refl _) (.int .i64 0) (.int .i64 0) (.slice none 0 0)
      exact ⟨⟨none, 0, rfl, ⟨rfl, .inl ⟨rfl, rfl⟩⟩⟩, (H0.out.below hB5).mono (fun b hb => .inl hb), Outside.of_below hB5⟩
  · have he : takeE wl ls k = atE k ls.length := if_neg ha
    have hl : takeL wl ls k = (0, 0, []) := by unfold takeL; rw [if_neg (by rw [he]; exact ha)]
    have hn : takeN wl ls k = ls := by unfold takeN; rw [if_neg (by rw [he]; exact ha)]
    rw [he, hl, hn]
    obtain ⟨x, hx⟩ : ∃ x, atE k ls.length = x := ⟨_, rfl⟩
    rw [hx] at HL ha ⊢
    have hb1 : (x == 0) = false := by simpa using ha
    clear he hl hn hx
    go_enter Try.func13, Try.ntmps13
    go_wp2_with (first
      | (go_at_call 16; rw [HW.out]; refine HL.out.mono ?_; rintro e w3 ⟨A3, c3, rfl, hown3, hb3⟩; have hB := hb3.alloc hb3.size (.cells #[.int .i64 (lookL ls k).1, .int .i64 (lookL ls k).2.1, .slice A3 (lookL ls k).2.2.length c3] 33); have y0 := (hB.block w.heap.size (by omega)).trans x0; have c10 := cell_of_row _ _ 0 _ _ _ y0; have c11 := cell_of_row _ _ 1 _ _ _ y0; have c12 := cell_of_row _ _ 2 _ _ _ y0; have f10 := frozen_of_cells y0; simp at c10 c11 c12)
      | fail)
    refine bodyPost_ret (results_row_tmp rfl _ _ w.heap.size _ _ _ _ rfl (set3 y0 _ _ _) Try.underlying33 rfl (by kernel_rfl)) rfl ?_
    have hB5 := below_set3 (below_step hal hal.size hB) (Nat.le_refl w.heap.size) (.int .i64 0) (.int .i64 0) (.slice none 0 0)
    exact ⟨⟨none, 0, rfl, ⟨rfl, .inl ⟨rfl, rfl⟩⟩⟩, (H0.out.below hB5).mono (fun b hb => .inl hb), Outside.of_below hB5⟩
end Go.Proofs.Ytfhmdphcgcmaeaa
