/-
  Layers 3 and 12, laws' helpers: the same entries, the same views.
-/
import Derived.Test.YtlcnpfiiijehmaaRView
import Derived.Deep.RegionHeld3
set_option linter.unusedVariables false
set_option linter.unusedSimpArgs false
namespace Go.Proofs.Ytlcnpfiiijehmaa
open Go.RowKit

set_option maxHeartbeats 2000000 in
theorem same03_any (x : Ent) (A B : Option Addr) (n c d : Nat) (w : World) (hn : x.data.length = n) (hA : Sees w A (u8s x.data)) (hB : Sees w B (u8s x.data)) :
    Calls Try.prog 36 #[x.val (.slice A n c), x.val (.slice B n d)] w (RetBool w true) := by
  obtain ⟨t, i, k, data⟩ := x
  dsimp only at hn hA hB
  unfold Ent.val
  dsimp only
  obtain ⟨W, hW⟩ : ∃ W, (w.alloc (.cells #[.int .i64 t, .int .i64 i, .int .i64 k, .slice A n c] 54)).alloc (.cells #[.int .i64 t, .int .i64 i, .int .i64 k, .slice B n d] 54) = W := ⟨_, rfl⟩
  have hb : Below w.heap.size w W := by rw [← hW]; exact ((Below.refl _ _).alloc (Nat.le_refl _) _).alloc (by simp) _
  have x2 : W.heap[w.heap.size + 1]? = some (.cells #[.int .i64 t, .int .i64 i, .int .i64 k, .slice B n d] 54 (0, 0)) := by
    rw [← hW]
    have := heap_alloc_new (w.alloc (.cells #[.int .i64 t, .int .i64 i, .int .i64 k, .slice A n c] 54)) (.cells #[.int .i64 t, .int .i64 i, .int .i64 k, .slice B n d] 54)
    simpa using this
  have x1 : W.heap[w.heap.size]? = some (.cells #[.int .i64 t, .int .i64 i, .int .i64 k, .slice A n c] 54 (0, 0)) := by
    rw [← hW]
    exact (Below.heap_alloc _ _ _ (by simp)).trans (heap_alloc_new w _)
  obtain ⟨g, hg⟩ : ∃ g, w.heap.size = g := ⟨_, rfl⟩
  rw [hg] at x1 x2
  have k0 := cell_of_row W g 0 _ _ _ x1
  have k1 := cell_of_row W g 1 _ _ _ x1
  have k2 := cell_of_row W g 2 _ _ _ x1
  have k3 := cell_of_row W g 3 _ _ _ x1
  have l0 := cell_of_row W (g + 1) 0 _ _ _ x2
  have l1 := cell_of_row W (g + 1) 1 _ _ _ x2
  have l2 := cell_of_row W (g + 1) 2 _ _ _ x2
  have l3 := cell_of_row W (g + 1) 3 _ _ _ x2
  simp at k0 k1 k2 k3 l0 l1 l2 l3
  have q1 := run_string_sees (P := Try.prog) W _ _ _ Try.underlying52 Try.underlying5 Try.underlying9 A n c data hn (hA.below hb)
  have q2 := run_string_sees (P := Try.prog) W _ _ _ Try.underlying52 Try.underlying5 Try.underlying9 B n d data hn (hB.below hb)
  have HW := Lib.hid hW
  have HB := Lib.hid hb
  have HG := Lib.hid hg
  clear hW hb x1 x2 hA hB hn hg
  go_enter Try.func36, Try.ntmps36
  go_upto_region 1 with fail
  rw [HW.out]
  try rw [HG.out]
  go_wp2_with fail
  go_ret
  exact ⟨rfl, HB.out⟩
set_option maxHeartbeats 2000000 in
theorem entries_same_any (A B : Option Addr) (es : List Ent) (n c d : Nat) (w : World) (hn : es.length = n) (hn2 : n ≤ 140737488355328) (hA : SeenE w A es) (hB : SeenE w B es) :
    Calls Try.prog 19 #[.slice A n c, .slice B n d] w (RetBool w true) := by
  have HA := Lib.hid hA
  have HB := Lib.hid hB
  have HN := Lib.hid hn
  clear hA hB hn
  go_enter Try.func19, Try.ntmps19
  go_wp2_with fail
  go_loopw [5] (fun s5 wr => ∃ k : Nat, s5 = .int .i64 (k : Int) ∧ k ≤ n ∧ Below w.heap.size w wr) (fun s5 _ => n - (intOf s5).toNat)
  case atStart => exact ⟨0, rfl, Nat.zero_le _, Below.refl _ _⟩
  case round =>
    obtain ⟨k, rfl, hk, hb⟩ := hrel
    have HBW := Lib.hid hb
    clear hb
    by_cases hlt : k < n
    · have hki : (k : Int) < (n : Int) := by omega
      have hkl : k < es.length := by rw [HN.out]; exact hlt
      obtain ⟨x, hx⟩ : ∃ x, es[k] = x := ⟨_, rfl⟩
      have hget : es[k]? = some x := by rw [List.getElem?_eq_getElem hkl, hx]
      obtain ⟨ad, A1, c1, rfl, hcs, hc1, hsd⟩ := (HA.out.below HBW.out).at hget
      obtain ⟨ad2, A2, c2, rfl, hcs2, hc2, hsd2⟩ := (HB.out.below HBW.out).at hget
      obtain ⟨q, hq⟩ : ∃ q, x.data.length = q := ⟨_, rfl⟩
      rw [hq] at hcs hc1 hcs2 hc2
      have HSM := Lib.hid (same03_any x A1 A2 q c1 c2 wr.drew hq (hsd.drewN 1) (hsd2.drewN 1))
      unfold Ent.val at HSM
      have a0 := hcs 0 _ rfl
      have a1 := hcs 1 _ rfl
      have a2 := hcs 2 _ rfl
      have a3 := hcs 3 _ rfl
      have b0 := hcs2 0 _ rfl
      have b1 := hcs2 1 _ rfl
      have b2 := hcs2 2 _ rfl
      have b3 := hcs2 3 _ rfl
      rw [add_zero'] at a0 b0
      rw [add_pos _ 1 (by decide)] at a1 b1
      rw [add_pos _ 2 (by decide)] at a2 b2
      rw [add_pos _ 3 (by decide)] at a3 b3
      have HY : Hid (∀ W', Below wr.drew.heap.size wr.drew W' → W'.cell? (ad.add (k * 4)) = some (.int .i64 x.term) ∧ W'.cell? ⟨(ad.add (k * 4)).block, (ad.add (k * 4)).off + 1, none⟩ = some (.int .i64 x.index) ∧ W'.cell? ⟨(ad.add (k * 4)).block, (ad.add (k * 4)).off + 2, none⟩ = some (.int .i64 x.kind) ∧ W'.cell? ⟨(ad.add (k * 4)).block, (ad.add (k * 4)).off + 3, none⟩ = some (.slice A1 q c1) ∧ W'.cell? (ad2.add (k * 4)) = some (.int .i64 x.term) ∧ W'.cell? ⟨(ad2.add (k * 4)).block, (ad2.add (k * 4)).off + 1, none⟩ = some (.int .i64 x.index) ∧ W'.cell? ⟨(ad2.add (k * 4)).block, (ad2.add (k * 4)).off + 2, none⟩ = some (.int .i64 x.kind) ∧ W'.cell? ⟨(ad2.add (k * 4)).block, (ad2.add (k * 4)).off + 3, none⟩ = some (.slice A2 q c2)) := Lib.hid (fun W' hb' => ⟨(hb'.cell (World.block_lt_of_cell? _ _ a0)).trans a0, (hb'.cell (World.block_lt_of_cell? _ _ a1)).trans a1, (hb'.cell (World.block_lt_of_cell? _ _ a2)).trans a2, (hb'.cell (World.block_lt_of_cell? _ _ a3)).trans a3, (hb'.cell (World.block_lt_of_cell? _ _ b0)).trans b0, (hb'.cell (World.block_lt_of_cell? _ _ b1)).trans b1, (hb'.cell (World.block_lt_of_cell? _ _ b2)).trans b2, (hb'.cell (World.block_lt_of_cell? _ _ b3)).trans b3⟩)
      clear hcs hcs2 hsd hsd2 hx hget hkl hq
      go_upto_region 6 with (fail)
      go_region_held3 (fun W' => W'.cell? (ad.add (k * 4)) = some (.int .i64 x.term) ∧ W'.cell? ⟨(ad.add (k * 4)).block, (ad.add (k * 4)).off + 1, none⟩ = some (.int .i64 x.index) ∧ W'.cell? ⟨(ad.add (k * 4)).block, (ad.add (k * 4)).off + 2, none⟩ = some (.int .i64 x.kind) ∧ W'.cell? ⟨(ad.add (k * 4)).block, (ad.add (k * 4)).off + 3, none⟩ = some (.slice A1 q c1) ∧ W'.cell? (ad2.add (k * 4)) = some (.int .i64 x.term) ∧ W'.cell? ⟨(ad2.add (k * 4)).block, (ad2.add (k * 4)).off + 1, none⟩ = some (.int .i64 x.index) ∧ W'.cell? ⟨(ad2.add (k * 4)).block, (ad2.add (k * 4)).off + 2, none⟩ = some (.int .i64 x.kind) ∧ W'.cell? ⟨(ad2.add (k * 4)).block, (ad2.add (k * 4)).off + 3, none⟩ = some (.slice A2 q c2))
        (first
          | exact ⟨a0, a1, a2, a3, b0, b1, b2, b3⟩
          | (refine ⟨?_, ?_, ?_, ?_, ?_, ?_, ?_, ?_⟩ <;> assumption)
          | (exact HY.out _ hb2)
          | fail)
        (first
          | (go_at_call 36; refine HSM.out.mono ?_; rintro e w2 ⟨rfl, hb2⟩)
          | fail)
      have HB2 : Hid (Below w.heap.size w w2) := Lib.hid (below_step (below_draws HBW.out 1) HBW.out.size hb2)
      clear hb2 a0 a1 a2 a3 b0 b1 b2 b3
      go_wp2_with fail
      go_roundw
      case rel => exact ⟨k + 1, by go_num, hlt, HB2.out⟩
      case measure => simp [intOf] <;> omega
    · have hki : ¬ (k : Int) < (n : Int) := by omega
      go_wp2_with fail
      go_ret
      exact ⟨rfl, HBW.out⟩
set_option maxHeartbeats 2000000 in
theorem same12_any (v : Vw) (A B : Option Addr) (n c d : Nat) (w : World) (hn : v.l.length = n) (hn2 : n ≤ 140737488355328) (hA : SeenE w A v.l) (hB : SeenE w B v.l) :
    Calls Try.prog 11 #[v.val (.slice A n c), v.val (.slice B n d)] w (RetBool w true) := by
  obtain ⟨b, t, l⟩ := v
  dsimp only at hn hA hB
  unfold Vw.val
  dsimp only
  obtain ⟨W, hW⟩ : ∃ W, (w.alloc (.cells #[.int .i64 b, .int .i64 t, .slice A n c] 26)).alloc (.cells #[.int .i64 b, .int .i64 t, .slice B n d] 24) = W := ⟨_, rfl⟩
  have hb : Below w.heap.size w W := by rw [← hW]; exact ((Below.refl _ _).alloc (Nat.le_refl _) _).alloc (by simp) _
  have x2 : W.heap[w.heap.size + 1]? = some (.cells #[.int .i64 b, .int .i64 t, .slice B n d] 24 (0, 0)) := by
    rw [← hW]
    have := heap_alloc_new (w.alloc (.cells #[.int .i64 b, .int .i64 t, .slice A n c] 26)) (.cells #[.int .i64 b, .int .i64 t, .slice B n d] 24)
    simpa using this
  have x1 : W.heap[w.heap.size]? = some (.cells #[.int .i64 b, .int .i64 t, .slice A n c] 26 (0, 0)) := by
    rw [← hW]
    exact (Below.heap_alloc _ _ _ (by simp)).trans (heap_alloc_new w _)
  obtain ⟨g, hg⟩ : ∃ g, w.heap.size = g := ⟨_, rfl⟩
  rw [hg] at x1 x2
  have k0 := cell_of_row W g 0 _ _ _ x1
  have k1 := cell_of_row W g 1 _ _ _ x1
  have k2 := cell_of_row W g 2 _ _ _ x1
  have l0 := cell_of_row W (g + 1) 0 _ _ _ x2
  have l1 := cell_of_row W (g + 1) 1 _ _ _ x2
  have l2 := cell_of_row W (g + 1) 2 _ _ _ x2
  simp at k0 k1 k2 l0 l1 l2
  have HE := Lib.hid (entries_same_any A B l n c d W hn hn2 (hA.below hb) (hB.below hb))
  have HW := Lib.hid hW
  have HB := Lib.hid hb
  have HG := Lib.hid hg
  clear hW hb x1 x2 hA hB hn hg
  go_enter Try.func11, Try.ntmps11
  go_upto_region 1 with fail
  rw [HW.out]
  try rw [HG.out]
  go_wp2_with (first
    | (go_at_call 19; refine HE.out.mono ?_; rintro e w2 ⟨rfl, hb2⟩; have HB2 := Lib.hid (below_step HB.out HB.out.size hb2); clear hb2)
    | fail)
  go_ret
  exact ⟨rfl, HB2.out⟩
end Go.Proofs.Ytlcnpfiiijehmaa
