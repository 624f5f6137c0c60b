/-
  The reference's net: Double.
-/
import Derived.Test.YtfhmdphcgcmaeaaRNet4
import Derived.Test.YtfhmdphcgcmaeaaRNet5
set_option linter.unusedVariables false
set_option linter.unusedSimpArgs false
namespace Go.Proofs.Ytfhmdphcgcmaeaa
open Go.RowKit

section
variable {S : Nat → Prop} {g : Nat} {most : Int} {ls : List Lt} {ids : List Int}
set_option maxHeartbeats 1000000 in
theorem refdouble_any (k : Int) (w : World) (h : RefAt S g most ls ids w) (hf : Fit most ls) :
    Calls Try.prog 34 #[.pointer (some ⟨g, 0, none⟩), .int .i64 k] w (RetR S g most (.int .i64 (doubleE most ls k)) (if doubleE most ls k = 0 then ls ++ [lookL ls k] else ls) ids w) := by
  have hL := reflook_any k w h
  have HL := Lib.hid hL
  have hbl := lookL_bytes hf k
  have H := Lib.hid h
  clear h hL
  by_cases ha : atE k ls.length = 0
  · have hd : doubleE most ls k = sendE most ls.length (lookL ls k) := if_pos ha
    rw [hd]
    rw [ha] at HL
    obtain ⟨l, hl⟩ : ∃ l, lookL ls k = l := ⟨_, rfl⟩
    rw [hl] at HL hbl ⊢
    have HF := Lib.hid hf
    obtain ⟨ls2, hls2⟩ : ∃ ls2, (if sendE most ls.length l = 0 then ls ++ [l] else ls) = ls2 := ⟨_, rfl⟩
    rw [hls2]
    have HLS := Lib.hid hls2
    clear ha hd hl hf hls2
    go_enter Try.func34, Try.ntmps34
    go_wp2_with (first
      | (go_at_call 37; refine HL.out.mono ?_; rintro e w3 ⟨A3, c3, rfl, hc3, hown3, hb3⟩; have hB := hb3.alloc hb3.size (.cells #[.int .i64 l.1, .int .i64 l.2.1, .slice A3 l.2.2.length c3] 35); have hS3 := (sees_own' (own_alloc' hown3 (.cells #[.int .i64 l.1, .int .i64 l.2.1, .slice A3 l.2.2.length c3] 35))).2.2.2)
      | (go_at_call 31; refine (refsend_any l.1 l.2.1 A3 l.2.2 c3 _ (H.out.below hB) HF.out.lo HF.out.hi HF.out.len hc3 (by omega) hS3).mono ?_; rintro e w4 ⟨rfl, hn4, ho4⟩)
      | fail)
    go_ret
    refine ⟨rfl, ?_, (Outside.of_below hB).trans ho4 (fun b _ hb => hb)⟩
    rw [← HLS.out]
    exact hn4.mono (fun b _ => Plus.mono hB.size b)
  · have hd : doubleE most ls k = atE k ls.length := if_neg ha
    rw [hd, if_neg ha]
    have hb1 : (atE k ls.length == 0) = false := by simpa using ha
    obtain ⟨x, hx⟩ : ∃ x, atE k ls.length = x := ⟨_, rfl⟩
    rw [hx] at HL ha hb1 ⊢
    clear hd hx hf
    go_enter Try.func34, Try.ntmps34
    go_wp2_with (first
      | (go_at_call 37; refine HL.out.mono ?_; rintro e w3 ⟨A3, c3, rfl, hc3, hown3, hb3⟩)
      | fail)
    go_ret
    have hB := hb3.alloc hb3.size (.cells #[.int .i64 (lookL ls k).1, .int .i64 (lookL ls k).2.1, .slice A3 (lookL ls k).2.2.length c3] 35)
    exact ⟨rfl, (H.out.below hB).mono (fun b _ hb => .inl hb), Outside.of_below hB⟩
end
end Go.Proofs.Ytfhmdphcgcmaeaa
