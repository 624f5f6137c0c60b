/-
  Package net: Clear, Double, Take.
-/
import Derived.Test.YtfhmdphcgcmaeaaNet7
set_option linter.unusedVariables false
set_option linter.unusedSimpArgs false
namespace Go.Proofs.Ytfhmdphcgcmaeaa
open Go.RowKit

theorem Plus.mono {S : Nat → Prop} {w w1 : World} (h : w.heap.size ≤ w1.heap.size) : ∀ b, Plus S w1 b → Plus S w b := fun b hb => hb.imp id (fun h2 => Nat.le_trans h h2)
/-- A letter in new memory, an answer, and a net that has changed. -/
def RetTake (S : Nat → Prop) (g : Nat) (most : Int) (l : Lt) (err : Int) (ls : List Lt) (wl : List Bool) (w : World) (e : Ending) (w' : World) : Prop :=
  (∃ A c, e = .returned (.tuple #[.agg #[.int .i64 l.1, .int .i64 l.2.1, .slice A l.2.2.length c], .int .i64 err]) ∧ w'.ownsRow w.heap.size 5 1 (.slice A l.2.2.length c) l.2.2.length (u8s l.2.2)) ∧ NetAt (Plus S w) g most ls wl w' ∧ Outside S w w'
set_option maxHeartbeats 1000000 in
theorem clear_any {S : Nat → Prop} {g : Nat} {most : Int} {ls : List Lt} {wl : List Bool} (w : World) (h : NetAt S g most ls wl w) (hm : most ≠ 0) :
    Calls Try.prog 24 #[.pointer (some ⟨g, 0, none⟩)] w (RetOp S g most (ls.length : Int) [] wl w) := by
  have hL := len_any w h hm
  have H := Lib.hid h
  obtain ⟨R, cr, cells, h1, h2, h3, h4, h5, h6⟩ := id h
  obtain ⟨k0, k1, _, hfz⟩ := net_cells h1
  by_cases h0 : 0 < ls.length
  · have hb : ((ls.length : Int) > 0) := by omega
    have hb' : decide (0 < (ls.length : Int)) = true := by simp; omega
    clear h k0
    go_enter Try.func24, Try.ntmps24
    go_wp2_with (first
      | (go_at_call 15; refine hL.mono ?_; rintro e w' ⟨rfl, rfl⟩)
      | fail)
    go_ret
    refine ⟨rfl, ⟨none, 0, [], netRow_set h1, h2, .inl h3, ⟨rfl, .inl ⟨rfl, rfl⟩⟩, fun b hb => by simp [Value.ownBlock] at hb, Recs.nil⟩, rfl, rfl, rfl, by simp [World.setCell], fun b hb hs => Below.heap_setCell w ⟨g, 1, none⟩ _ b (fun e => hs (e ▸ h3))⟩
  · have hz : ls = [] := List.eq_nil_of_length_eq_zero (by omega)
    subst hz
    have hb' : decide (0 < ((([] : List Lt).length : Nat) : Int)) = false := by simp
    clear h k0
    go_enter Try.func24, Try.ntmps24
    go_wp2_with (first
      | (go_at_call 15; refine hL.mono ?_; rintro e w' ⟨rfl, rfl⟩)
      | fail)
    go_ret
    exact ⟨rfl, H.out.mono (fun b hb => .inl hb), Outside.refl _ _⟩
/-- What is true of a net that New made. -/
structure Fit (most : Int) (ls : List Lt) : Prop where
  lo : 1 ≤ most
  hi : most ≤ 10000
  len : (ls.length : Int) ≤ most
  all : ∀ l ∈ ls, rightB l = true
theorem Fit.bytes {most : Int} {ls : List Lt} (h : Fit most ls) : ∀ l ∈ ls, l.2.2.length ≤ 1048576 := fun l hl => by
  have := h.all l hl
  simp [rightB] at this
  omega
def doubleE (most : Int) (ls : List Lt) (k : Int) : Int := if atE k ls.length = 0 then sendE most ls.length (lookL ls k) else atE k ls.length
set_option maxHeartbeats 1000000 in
theorem double_any {S : Nat → Prop} {g : Nat} {most : Int} {ls : List Lt} {wl : List Bool} (k : Int) (w : World) (h : NetAt S g most ls wl w) (hf : Fit most ls) :
    Calls Try.prog 18 #[.pointer (some ⟨g, 0, none⟩), .int .i64 k] w (RetOp S g most (doubleE most ls k) (if doubleE most ls k = 0 then ls ++ [lookL ls k] else ls) wl w) := by
  have hlo := hf.lo
  have hL := look_any k w h (by omega) hf.bytes
  have HL := Lib.hid hL
  have H := Lib.hid h
  clear hL h
  by_cases ha : atE k ls.length = 0
  · have hd : doubleE most ls k = sendE most ls.length (lookL ls k) := if_pos ha
    rw [hd]
    obtain ⟨l, hl⟩ : ∃ l, lookL ls k = l := ⟨_, rfl⟩
    have hbl : l.2.2.length ≤ 1048576 := by
      rw [← hl]
      unfold lookL
      split
      · simp
      · rename_i hk
        have hk' : k.toNat < ls.length := by omega
        rw [List.getD_eq_getElem?_getD, List.getElem?_eq_getElem hk']
        exact hf.bytes _ (List.getElem_mem hk')
    rw [ha, hl] at HL
    rw [hl]
    have HF := Lib.hid hf
    obtain ⟨ls2, hls2⟩ : ∃ ls2, (if sendE most ls.length l = 0 then ls ++ [l] else ls) = ls2 := ⟨_, rfl⟩
    rw [hls2]
    have HLS := Lib.hid hls2
    clear ha hd hl hf hls2
    go_enter Try.func18, Try.ntmps18
    go_wp2_with (first
      | (go_at_call 16; refine HL.out.mono ?_; rintro e w3 ⟨A3, c3, rfl, hown3, hb3⟩; have hB := hb3.alloc hb3.size (.cells #[.int .i64 l.1, .int .i64 l.2.1, .slice A3 l.2.2.length c3] 33); have hc3 := (sees_own' hown3).2.1; have hS3 := (sees_own' (own_alloc' hown3 (.cells #[.int .i64 l.1, .int .i64 l.2.1, .slice A3 l.2.2.length c3] 33))).2.2.2)
      | (go_at_call 11; refine (send_any l.1 l.2.1 A3 l.2.2 c3 _ (H.out.below hB) HF.out.lo HF.out.hi HF.out.len hc3 (by omega) hS3).mono ?_; rintro e w4 ⟨rfl, hn4, ho4⟩)
      | fail)
    go_ret
    refine ⟨rfl, ?_, (Outside.of_below hB).trans ho4 (fun b _ hb => hb)⟩
    rw [← HLS.out]
    exact hn4.mono (Plus.mono hB.size)
  · have hd : doubleE most ls k = atE k ls.length := if_neg ha
    rw [hd, if_neg ha]
    have hb1 : (atE k ls.length == 0) = false := by simpa using ha
    obtain ⟨x, hx⟩ : ∃ x, atE k ls.length = x := ⟨_, rfl⟩
    rw [hx] at HL ha hb1 ⊢
    clear hd hx hf
    go_enter Try.func18, Try.ntmps18
    go_wp2_with (first
      | (go_at_call 16; refine HL.out.mono ?_; rintro e w3 ⟨A3, c3, rfl, hown3, hb3⟩)
      | fail)
    go_ret
    have hB := hb3.alloc hb3.size (.cells #[.int .i64 (lookL ls k).1, .int .i64 (lookL ls k).2.1, .slice A3 (lookL ls k).2.2.length c3] 33)
    exact ⟨rfl, (H.out.below hB).mono (fun b hb => .inl hb), Outside.of_below hB⟩
end Go.Proofs.Ytfhmdphcgcmaeaa
