/-
  The reference's net: Take, Lose.
-/
import Derived.Test.YtfhmdphcgcmaeaaRNet3
import Derived.Test.YtfhmdphcgcmaeaaNet9
set_option linter.unusedVariables false
set_option linter.unusedSimpArgs false
namespace Go.Proofs.Ytfhmdphcgcmaeaa
open Go.RowKit

section
variable {S : Nat → Prop} {g : Nat} {most : Int} {ls : List Lt} {ids : List Int}
/-- A letter taken from the reference's net. -/
def RetTakeR (S : Nat → Prop) (g : Nat) (most : Int) (l : Lt) (err : Int) (ls : List Lt) (ids : List Int) (w : World) (e : Ending) (w' : World) : Prop :=
  (∃ A c, e = .returned (.tuple #[.agg #[.int .i64 l.1, .int .i64 l.2.1, .slice A l.2.2.length c], .int .i64 err]) ∧ l.2.2.length ≤ c ∧ w'.ownsRow 0 5 1 (.slice A l.2.2.length c) l.2.2.length (u8s l.2.2)) ∧ RefAt (Plus S w) g most ls ids w' ∧ Outside S w w'
theorem at_bound {k : Int} {n : Nat} (h : atE k n = 0) : ∃ j : Nat, (j : Int) = k ∧ j < n := by
  unfold atE at h
  split at h
  · cases h
  · exact ⟨k.toNat, by omega, by omega⟩
set_option maxHeartbeats 1000000 in
theorem reflose_any (k : Int) (w : World) (h : RefAt S g most ls ids w) (hlen : ls.length ≤ 10000) :
    Calls Try.prog 33 #[.pointer (some ⟨g, 0, none⟩), .int .i64 k] w (RetR S g most (.int .i64 (atE k ls.length)) (if atE k ls.length = 0 then ls.eraseIdx k.toNat else ls) ids w) := by
  have HL := Lib.hid (reflook_any k w h)
  have H := Lib.hid h
  by_cases ha : atE k ls.length = 0
  · rw [ha, if_pos rfl]
    rw [ha] at HL
    obtain ⟨j, rfl, hj⟩ := at_bound ha
    rw [Int.toNat_natCast]
    obtain ⟨l, hl⟩ : ∃ l, lookL ls (j : Int) = l := ⟨_, rfl⟩
    rw [hl] at HL
    clear ha hl h
    go_enter Try.func33, Try.ntmps33
    go_wp2_with (first
      | (go_at_call 37; refine HL.out.mono ?_; rintro e w3 ⟨A3, c3, rfl, hc3, hown3, hb3⟩; have hB := hb3.alloc hb3.size (.cells #[.int .i64 l.1, .int .i64 l.2.1, .slice A3 l.2.2.length c3] 35))
      | (go_at_call 42; refine (drop_any j _ (H.out.below hB) hj hlen).mono ?_; rintro e w4 ⟨rfl, hr4, ho4⟩)
      | fail)
    go_ret
    obtain ⟨_, _, _, _, _, hr⟩ := H.out
    exact ⟨rfl, hr4.mono (fun b _ => Plus.mono hB.size b), (Outside.of_below hB).trans ho4 (fun b _ hb => by rw [hb]; exact hr.own)⟩
  · rw [if_neg ha]
    obtain ⟨l, hl⟩ : ∃ l, lookL ls k = l := ⟨_, rfl⟩
    have hb1 : (atE k ls.length == 0) = false := by simpa using ha
    obtain ⟨x, hx⟩ : ∃ x, atE k ls.length = x := ⟨_, rfl⟩
    rw [hl, hx] at HL
    rw [hx] at ha hb1 ⊢
    clear hl h hx
    go_enter Try.func33, Try.ntmps33
    go_wp2_with (first
      | (go_at_call 37; refine HL.out.mono ?_; rintro e w3 ⟨A3, c3, rfl, hc3, hown3, hb3⟩; have hB := hb3.alloc hb3.size (.cells #[.int .i64 l.1, .int .i64 l.2.1, .slice A3 l.2.2.length c3] 35))
      | fail)
    go_ret
    exact ⟨rfl, (H.out.below hB).mono (fun b _ hb => .inl hb), Outside.of_below hB⟩
set_option maxHeartbeats 2000000 in
theorem reftake_any (k : Int) (w : World) (h : RefAt S g most ls ids w) (hf : Fit most ls) (wl : List Bool) (hw : ∀ l ∈ ls, openR ids l.1 l.2.1 l.2.2.length = openL wl l) :
    Calls Try.prog 32 #[.pointer (some ⟨g, 0, none⟩), .int .i64 k] w (RetTakeR S g most (takeL wl ls k) (takeE wl ls k) (takeN wl ls k) ids w) := by
  have hlo := hf.lo
  have hlen : ls.length ≤ 10000 := by have := hf.len; have := hf.hi; omega
  have hbl := lookL_bytes hf k
  obtain ⟨W, hW⟩ : ∃ W, w.alloc (.cells #[.int .i64 0, .int .i64 0, .slice none 0 0] 35) = W := ⟨_, rfl⟩
  have hal : Below w.heap.size w W := by rw [← hW]; exact (Below.refl w.heap.size w).alloc (Nat.le_refl _) _
  have x0 : W.heap[w.heap.size]? = some (.cells #[.int .i64 0, .int .i64 0, .slice none 0 0] 35 (0, 0)) := by rw [← hW]; exact heap_alloc_new w _
  have hzl : w.heap.size < W.heap.size := (Array.getElem?_eq_some_iff.1 x0).1
  have hN := h.below hal
  have HL := Lib.hid (reflook_any k W hN)
  have H := Lib.hid hN
  have H0 := Lib.hid h
  have HW := Lib.hid hW
  have hopen : atE k ls.length = 0 → openR ids (lookL ls k).1 (lookL ls k).2.1 (lookL ls k).2.2.length = openL wl (lookL ls k) := fun ha => by
    obtain ⟨j, rfl, hj⟩ := at_bound ha
    rw [lookL_some hj]
    exact hw _ (List.getElem_mem hj)
  clear hW hN h hf hw
  by_cases ha : atE k ls.length = 0
  · have hop := hopen ha
    clear hopen
    by_cases ho : openL wl (lookL ls k) = true
    · have he : takeE wl ls k = 0 := by unfold takeE; rw [if_pos ha, if_pos ho]
      have hl : takeL wl ls k = lookL ls k := by unfold takeL; rw [if_pos he]
      have hn : takeN wl ls k = ls.eraseIdx k.toNat := by unfold takeN; rw [if_pos he]
      rw [he, hl, hn]
      rw [ho] at hop
      obtain ⟨l, hll⟩ : ∃ l, lookL ls k = l := ⟨_, rfl⟩
      rw [hll] at hop hbl ⊢
      have HO := Lib.hid hop
      rw [ha, hll] at HL
      obtain ⟨j, rfl, hj⟩ := at_bound ha
      rw [Int.toNat_natCast]
      clear ha he hl hn hll ho hop
      go_enter Try.func32, Try.ntmps32
      go_wp2_with (first
        | (go_at_call 37; rw [HW.out]; refine HL.out.mono ?_; rintro e w3 ⟨A3, c3, rfl, hc3, hown3, hb3⟩; have hB := hb3.alloc hb3.size (.cells #[.int .i64 l.1, .int .i64 l.2.1, .slice A3 l.2.2.length c3] 35))
        | (go_at_call 39; refine (refopen_any l.1 l.2.1 A3 l.2.2.length c3 _ (H.out.below hB) (by omega)).mono ?_; rintro e w4 ⟨rfl, hb4⟩; rw [HO.out]; have hB4 := below_step hB hB.size hb4)
        | (go_at_call 42; refine (drop_any j _ (H0.out.cut.below (below_step hal hal.size hB4)) hj hlen).mono ?_; rintro e w5 ⟨rfl, hr5, ho5⟩; have hz3 := hb3.size; have hz4 := hb4.size; simp at hz4; have xb : (w3.alloc (.cells #[.int .i64 l.1, .int .i64 l.2.1, .slice A3 l.2.2.length c3] 35)).heap[w3.heap.size]? = some (.cells #[.int .i64 l.1, .int .i64 l.2.1, .slice A3 l.2.2.length c3] 35 (0, 0)) := heap_alloc_new w3 _; obtain ⟨_, _, _, _, _, hr⟩ := H0.out; have hgw := (Array.getElem?_eq_some_iff.1 hr.row).1; have y0 := (hB4.block w.heap.size hzl).trans x0; have yb := (hb4.block w3.heap.size (by simp)).trans xb; have z0 := (ho5.block w.heap.size (by omega) (by omega)).trans y0; have zb := (ho5.block w3.heap.size (by omega) (by omega)).trans yb; have e0 := cell_of_row w5 _ 0 _ _ _ zb; have e1 := cell_of_row w5 _ 1 _ _ _ zb; have e2 := cell_of_row w5 _ 2 _ _ _ zb; have r0 := cell_of_row w5 _ 0 _ _ _ z0; have r1 := cell_of_row w5 _ 1 _ _ _ z0; have r2 := cell_of_row w5 _ 2 _ _ _ z0; have rf := frozen_of_cells z0; simp at e0 e1 e2 r0 r1 r2; clear xb y0 yb)
        | fail)
      refine bodyPost_ret (results_row_tmp rfl _ _ w.heap.size _ _ _ _ rfl (set3 z0 _ _ _) Try.underlying35 rfl (by kernel_rfl)) rfl ?_
      have hB5 := below_step hal hal.size hB4
      have hz5 := ho5.size
      have hsame : ∀ b, b ≠ w.heap.size → (((w5.setCell ⟨w.heap.size, 0, none⟩ (.int .i64 l.1)).setCell ⟨w.heap.size, 1, none⟩ (.int .i64 l.2.1)).setCell ⟨w.heap.size, 2, none⟩ (.slice A3 l.2.2.length c3)).heap[b]? = w5.heap[b]? := fun b hb => by
        rw [Below.heap_setCell _ _ _ b hb, Below.heap_setCell _ _ _ b hb, Below.heap_setCell _ _ _ b hb]
      obtain ⟨_, _, _, _, _, hrW⟩ := H.out
      have hrow3 := (hb3.block g (by omega)).trans hrW.row
      refine ⟨⟨A3, c3, rfl, hc3, ?_⟩, ?_, ?_⟩
      · refine own_same hown3 (fun b hb => ?_)
        have hbb := own_block_ge hown3 b hb
        have hbg : b ≠ g := fun e => own_ne hown3 hrow3 (by decide) (by rw [hb, e])
        have hb0 : b ≠ w.heap.size := fun e => own_ne hown3 ((hb3.block w.heap.size hzl).trans x0) (by decide) (by rw [hb, e])
        rw [hsame b hb0, ho5.block b (by omega) hbg]
        exact (hb4.block b (by simp; omega)).trans (((Below.refl w3.heap.size w3).alloc (Nat.le_refl _) _).block b hbb.2)
      · refine (hr5.keep (fun b hb hs => hsame b ?_)).mono (fun b _ => Cut.plus hB5.size b)
        rintro rfl
        rcases hs with hs | hs
        · exact Nat.lt_irrefl _ hs.2
        · have : w4.heap.size ≤ w.heap.size := hs
          omega
      · have hO : Outside S w w5 := (Outside.of_below hB5).trans ho5 (fun b _ hb => by rw [hb]; exact hr.own)
        exact ((hO.set _ _ (.inl (Nat.le_refl _))).set _ _ (.inl (Nat.le_refl _))).set _ _ (.inl (Nat.le_refl _))
    · have he : takeE wl ls k = 31 := by unfold takeE; rw [if_pos ha, if_neg ho]
      have hl : takeL wl ls k = (0, 0, []) := by unfold takeL; rw [if_neg (by rw [he]; decide)]
      have hn : takeN wl ls k = ls := by unfold takeN; rw [if_neg (by rw [he]; decide)]
      rw [he, hl, hn]
      have ho' : openL wl (lookL ls k) = false := by simpa using ho
      rw [ho'] at hop
      obtain ⟨l, hll⟩ : ∃ l, lookL ls k = l := ⟨_, rfl⟩
      rw [hll] at hop hbl
      have HO := Lib.hid hop
      rw [ha, hll] at HL
      clear ha he hl hn hll ho ho' hop
      go_enter Try.func32, Try.ntmps32
      go_wp2_with (first
        | (go_at_call 37; rw [HW.out]; refine HL.out.mono ?_; rintro e w3 ⟨A3, c3, rfl, hc3, hown3, hb3⟩; have hB := hb3.alloc hb3.size (.cells #[.int .i64 l.1, .int .i64 l.2.1, .slice A3 l.2.2.length c3] 35))
        | (go_at_call 39; refine (refopen_any l.1 l.2.1 A3 l.2.2.length c3 _ (H.out.below hB) (by omega)).mono ?_; rintro e w4 ⟨rfl, hb4⟩; rw [HO.out]; have hB4 := below_step hB hB.size hb4; have y0 := (hB4.block w.heap.size hzl).trans x0; have c10 := cell_of_row w4 _ 0 _ _ _ y0; have c11 := cell_of_row w4 _ 1 _ _ _ y0; have c12 := cell_of_row w4 _ 2 _ _ _ y0; have f10 := frozen_of_cells y0; simp at c10 c11 c12)
        | fail)
      refine bodyPost_ret (results_row_tmp rfl _ _ w.heap.size _ _ _ _ rfl (set3 y0 _ _ _) Try.underlying35 rfl (by kernel_rfl)) rfl ?_
      have hB5 := below_set3 (below_step hal hal.size hB4) (Nat.le_refl w.heap.size) (.int .i64 0) (.int .i64 0) (.slice none 0 0)
      exact ⟨⟨none, 0, rfl, Nat.le_refl _, ⟨rfl, .inl ⟨rfl, rfl⟩⟩⟩, (H0.out.below hB5).mono (fun b _ hb => .inl hb), Outside.of_below hB5⟩
  · have he : takeE wl ls k = atE k ls.length := if_neg ha
    have hl : takeL wl ls k = (0, 0, []) := by unfold takeL; rw [if_neg (by rw [he]; exact ha)]
    have hn : takeN wl ls k = ls := by unfold takeN; rw [if_neg (by rw [he]; exact ha)]
    rw [he, hl, hn]
    obtain ⟨x, hx⟩ : ∃ x, atE k ls.length = x := ⟨_, rfl⟩
    rw [hx] at HL ha ⊢
    have hb1 : (x == 0) = false := by simpa using ha
    clear he hl hn hx hopen
    go_enter Try.func32, Try.ntmps32
    go_wp2_with (first
      | (go_at_call 37; rw [HW.out]; refine HL.out.mono ?_; rintro e w3 ⟨A3, c3, rfl, hc3, hown3, hb3⟩; have hB := hb3.alloc hb3.size (.cells #[.int .i64 (lookL ls k).1, .int .i64 (lookL ls k).2.1, .slice A3 (lookL ls k).2.2.length c3] 35); have y0 := (hB.block w.heap.size hzl).trans x0; have c10 := cell_of_row _ _ 0 _ _ _ y0; have c11 := cell_of_row _ _ 1 _ _ _ y0; have c12 := cell_of_row _ _ 2 _ _ _ y0; have f10 := frozen_of_cells y0; simp at c10 c11 c12)
      | fail)
    refine bodyPost_ret (results_row_tmp rfl _ _ w.heap.size _ _ _ _ rfl (set3 y0 _ _ _) Try.underlying35 rfl (by kernel_rfl)) rfl ?_
    have hB5 := below_set3 (below_step hal hal.size hB) (Nat.le_refl w.heap.size) (.int .i64 0) (.int .i64 0) (.slice none 0 0)
    exact ⟨⟨none, 0, rfl, Nat.le_refl _, ⟨rfl, .inl ⟨rfl, rfl⟩⟩⟩, (H0.out.below hB5).mono (fun b _ hb => .inl hb), Outside.of_below hB5⟩
end
end Go.Proofs.Ytfhmdphcgcmaeaa
