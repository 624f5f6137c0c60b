/-
  Package net: no net, and one that nobody made.
-/
import Derived.Test.YtfhmdphcgcmaeaaNetL2
set_option linter.unusedVariables false
set_option linter.unusedSimpArgs false
namespace Go.Proofs.Ytfhmdphcgcmaeaa
open Go.RowKit

/-- No net, or one that nobody made, from here on. -/
def IsNone (v : Value) (W : World) : Prop := ∀ W', Later W W' → Calls Try.prog 25 #[v] W' fun e w' => e = .returned (.bool true) ∧ W' = w'
theorem isNone_nil (W : World) : IsNone (.pointer none) W := fun W' _ => none_nil W'
theorem isNone_zero {W : World} {g : Nat} (h : W.cell? ⟨g, 0, none⟩ = some (.int .i64 0)) : IsNone (.pointer (some ⟨g, 0, none⟩)) W := fun W' hb =>
  none_any g 0 W' ((hb.cell (World.block_lt_of_cell? W _ h)).trans h)
theorem IsNone.later {v : Value} {W W' : World} (h : IsNone v W) (hb : Later W W') : IsNone v W' := fun W'' hb' => h W'' (later_step hb hb')
variable {v : Value}
theorem at_none (k : Int) (w : World) (h : IsNone v w) : Calls Try.prog 28 #[v, .int .i64 k] w fun e w' => e = .returned (.int .i64 1) ∧ w = w' := by
  have H := Lib.hid (h w (Below.refl _ _))
  clear h
  go_enter Try.func28, Try.ntmps28
  go_wp2_with (first
    | (go_at_call 25; refine H.out.mono ?_; rintro e w' ⟨rfl, rfl⟩)
    | fail)
  go_ret
  exact ⟨rfl, rfl⟩
theorem len_none (w : World) (h : IsNone v w) : Calls Try.prog 15 #[v] w fun e w' => e = .returned (.int .i64 0) ∧ w = w' := by
  have H := Lib.hid (h w (Below.refl _ _))
  clear h
  go_enter Try.func15, Try.ntmps15
  go_wp2_with (first
    | (go_at_call 25; refine H.out.mono ?_; rintro e w' ⟨rfl, rfl⟩)
    | fail)
  go_ret
  exact ⟨rfl, rfl⟩
theorem clear_none (w : World) (h : IsNone v w) : Calls Try.prog 24 #[v] w fun e w' => e = .returned (.int .i64 0) ∧ w = w' := by
  have H := Lib.hid (len_none w h)
  clear h
  go_enter Try.func24, Try.ntmps24
  go_wp2_with (first
    | (go_at_call 15; refine H.out.mono ?_; rintro e w' ⟨rfl, rfl⟩)
    | fail)
  go_ret
  exact ⟨rfl, rfl⟩
theorem next_none (k : Int) (w : World) (h : IsNone v w) : Calls Try.prog 20 #[v, .int .i64 k] w fun e w' => e = .returned (.int .i64 0) ∧ w = w' := by
  have H := Lib.hid (h w (Below.refl _ _))
  clear h
  go_enter Try.func20, Try.ntmps20
  go_wp2_with (first
    | (go_at_call 25; refine H.out.mono ?_; rintro e w' ⟨rfl, rfl⟩)
    | fail)
  go_ret
  exact ⟨rfl, rfl⟩
theorem lose_none (k : Int) (w : World) (h : IsNone v w) : Calls Try.prog 17 #[v, .int .i64 k] w fun e w' => e = .returned (.int .i64 1) ∧ w = w' := by
  have H := Lib.hid (at_none k w h)
  clear h
  go_enter Try.func17, Try.ntmps17
  go_wp2_with (first
    | (go_at_call 28; refine H.out.mono ?_; rintro e w' ⟨rfl, rfl⟩)
    | fail)
  go_ret
  exact ⟨rfl, rfl⟩
theorem look_none (k : Int) (w : World) (h : IsNone v w) : Calls Try.prog 16 #[v, .int .i64 k] w (RetLook w (0, 0, []) 1) := by
  have hal := (Below.refl w.heap.size w).alloc (Nat.le_refl _) (.cells #[.int .i64 0, .int .i64 0, .slice none 0 0] 33)
  have x0 : (w.alloc (.cells #[.int .i64 0, .int .i64 0, .slice none 0 0] 33)).heap[w.heap.size]? = some (.cells #[.int .i64 0, .int .i64 0, .slice none 0 0] 33 (0, 0)) := heap_alloc_new w _
  have H := Lib.hid (at_none k _ (h.later hal))
  clear h
  go_enter Try.func16, Try.ntmps16
  go_wp2_with (first
    | (go_at_call 28; refine H.out.mono ?_; rintro e w' ⟨rfl, rfl⟩)
    | fail)
  refine bodyPost_ret (results_row_tmp rfl _ _ w.heap.size _ _ _ _ rfl x0 Try.underlying33 rfl (by kernel_rfl)) rfl ?_
  exact ⟨none, 0, rfl, ⟨rfl, .inl ⟨rfl, rfl⟩⟩, hal⟩
theorem take_none (k : Int) (w : World) (h : IsNone v w) : Calls Try.prog 13 #[v, .int .i64 k] w (RetLook w (0, 0, []) 1) := by
  obtain ⟨W, hW⟩ : ∃ W, w.alloc (.cells #[.int .i64 0, .int .i64 0, .slice none 0 0] 33) = W := ⟨_, rfl⟩
  have hal : Below w.heap.size w W := by rw [← hW]; exact (Below.refl w.heap.size w).alloc (Nat.le_refl _) _
  have x0 : W.heap[w.heap.size]? = some (.cells #[.int .i64 0, .int .i64 0, .slice none 0 0] 33 (0, 0)) := by rw [← hW]; exact heap_alloc_new w _
  have hz : W.heap.size = w.heap.size + 1 := by rw [← hW]; simp
  have H := Lib.hid (look_none k _ (h.later hal))
  have HW := Lib.hid hW
  clear h hW
  go_enter Try.func13, Try.ntmps13
  go_wp2_with (first
    | (go_at_call 16; rw [HW.out]; refine H.out.mono ?_; rintro e w3 ⟨A3, c3, rfl, hown3, hb3⟩; have hB := hb3.alloc hb3.size (.cells #[.int .i64 0, .int .i64 0, .slice A3 0 c3] 33); have y0 := (hB.block w.heap.size (by omega)).trans x0; have c10 := cell_of_row _ _ 0 _ _ _ y0; have c11 := cell_of_row _ _ 1 _ _ _ y0; have c12 := cell_of_row _ _ 2 _ _ _ y0; have f10 := frozen_of_cells y0; simp at c10 c11 c12)
    | fail)
  refine bodyPost_ret (results_row_tmp rfl _ _ w.heap.size _ _ _ _ rfl (set3 y0 _ _ _) Try.underlying33 rfl (by kernel_rfl)) rfl ?_
  exact ⟨none, 0, rfl, ⟨rfl, .inl ⟨rfl, rfl⟩⟩, below_set3 (below_step hal hal.size hB) (Nat.le_refl w.heap.size) (.int .i64 0) (.int .i64 0) (.slice none 0 0)⟩
theorem double_none (k : Int) (w : World) (h : IsNone v w) : Calls Try.prog 18 #[v, .int .i64 k] w (RetVal w (.int .i64 1)) := by
  have H := Lib.hid (look_none k _ h)
  clear h
  go_enter Try.func18, Try.ntmps18
  go_wp2_with (first
    | (go_at_call 16; refine H.out.mono ?_; rintro e w3 ⟨A3, c3, rfl, hown3, hb3⟩)
    | fail)
  go_ret
  exact ⟨rfl, hb3.alloc hb3.size _⟩
theorem send_none (f t : Int) (A : Option Addr) (n c : Nat) (w : World) (h : IsNone v w) : Calls Try.prog 11 #[v, .agg #[.int .i64 f, .int .i64 t, .slice A n c]] w (RetVal w (.int .i64 1)) := by
  have hal := (Below.refl w.heap.size w).alloc (Nat.le_refl _) (.cells #[.int .i64 f, .int .i64 t, .slice A n c] 33)
  have H := Lib.hid (h _ hal)
  clear h
  go_enter Try.func11, Try.ntmps11
  go_wp2_with (first
    | (go_at_call 25; refine H.out.mono ?_; rintro e w' ⟨rfl, rfl⟩)
    | fail)
  go_ret
  exact ⟨rfl, hal⟩
theorem open_none (f t : Int) (A : Option Addr) (n c : Nat) (w : World) (h : IsNone v w) : Calls Try.prog 21 #[v, .agg #[.int .i64 f, .int .i64 t, .slice A n c]] w (RetVal w (.bool false)) := by
  obtain ⟨W, hW⟩ : ∃ W, w.alloc (.cells #[.int .i64 f, .int .i64 t, .slice A n c] 33) = W := ⟨_, rfl⟩
  have hal : Below w.heap.size w W := by rw [← hW]; exact (Below.refl w.heap.size w).alloc (Nat.le_refl _) _
  have hN := h.later hal
  have HW := Lib.hid hW
  have HN := Lib.hid hN
  clear h hN hW
  go_enter Try.func21, Try.ntmps21
  go_wp2
  rw [HW.out]
  refine wp_region_calm (Later W) (by kernel_rfl) (by kernel_rfl) (Below.refl _ _).drew (fun hne => ?_)
  repeat (go_big_quiet_step (first
    | (go_at_call 25; exact calm_of (HN.out _ (InS.h _)) (by rintro e w' ⟨rfl, rfl⟩; exact ⟨rfl, InS.h _⟩))
    | fail))
  refine wpQuiet_nil ?_
  rintro _ ⟨p, rfl⟩
  go_wp2
  go_ret
  exact ⟨rfl, below_step hal hal.size p.h⟩
set_option maxHeartbeats 1000000 in
theorem wall_none (A : Option Addr) (c : Nat) (ids : List Int) (w : World) (h : IsNone v w) (hlen : ids.length ≤ 9223372036854775807) (hA : Sees w A (ids.map intV)) :
    Calls Try.prog 19 #[v, .slice A ids.length c] w (RetVal w (.int .i64 1)) := by
  have HA := Lib.hid hA
  obtain ⟨W, hW⟩ : ∃ W, w.alloc (wallObj open16) = W := ⟨_, rfl⟩
  have hal : Below w.heap.size w W := by rw [← hW]; exact (Below.refl w.heap.size w).alloc (Nat.le_refl _) _
  have x0 : W.heap[w.heap.size]? = some (wallObj open16) := by rw [← hW]; exact heap_alloc_new w _
  have HW := Lib.hid hW
  have HN := Lib.hid h
  clear hA hW h
  go_enter Try.func19, Try.ntmps19
  go_wp2
  have eW : w.alloc (.cells #[.bool false, .bool false, .bool false, .bool false, .bool false, .bool false, .bool false, .bool false, .bool false, .bool false, .bool false, .bool false, .bool false, .bool false, .bool false, .bool false] 59) = W := HW.out
  rw [eW]
  clear eW
  go_loopw [10] (fun i wr => ∃ (k : Nat) (wl : List Bool), i = .int .i64 (k : Int) ∧ k ≤ ids.length ∧ wl.length = 16 ∧ Below w.heap.size w wr ∧ wr.heap[w.heap.size]? = some (wallObj wl)) (fun i _ => ids.length - (intOf i).toNat)
  case atStart => exact ⟨0, open16, rfl, Nat.zero_le _, rfl, hal, x0⟩
  case round =>
    obtain ⟨k, wl, rfl, hkl, h16, hbw, hrow⟩ := hrel
    by_cases hlt : k < ids.length
    · obtain ⟨ad, rfl, hcell0⟩ := HA.out k (intV ids[k]) (by rw [List.getElem?_map, List.getElem?_eq_getElem hlt]; rfl)
      have hcell := ((hbw.cell (World.block_lt_of_cell? w _ hcell0)).trans hcell0)
      cases hs : serverB ids[k] with
      | true =>
        obtain ⟨i, hi, hi16⟩ := serverB_nat hs
        rw [← hi] at hcell
        have hsi := server_any (i : Int)
        have hSi : serverB (i : Int) = true := by rw [hi]; exact hs
        have HI := Lib.hid hi
        have q1 := cell_of_row wr _ i _ _ _ hrow
        have q2 := frozen_of_cells hrow i
        obtain ⟨b0, hb0⟩ : ∃ b, wl[i]? = some b := ⟨_, List.getElem?_eq_getElem (by omega)⟩
        rw [List.getElem?_toArray, List.getElem?_map, hb0] at q1
        simp only [Option.map_some] at q1
        unfold intV at hcell
        have H16 := Lib.hid h16
        clear hs hcell0 hi h16 hb0
        go_wp2_with (first
          | (go_at_call 30; refine (hsi _).mono ?_; rintro e w' ⟨rfl, rfl⟩; rw [hSi])
          | fail)
        go_roundw
        case rel => exact ⟨k + 1, wl.set i true, by go_num, by omega, by rw [List.length_set]; exact H16.out, hbw.setCell (by simp) _, wallObj_set hrow i true⟩
        case measure => simp [intOf]; omega
      | false =>
        unfold intV at hcell
        have hsi := server_any ids[k]
        go_wp2_with (first
          | (go_at_call 30; refine (hsi _).mono ?_; rintro e w' ⟨rfl, rfl⟩; rw [hs])
          | fail)
        go_ret
        exact ⟨rfl, hbw⟩
    · have hke : k = ids.length := by omega
      subst hke
      have H := Lib.hid (HN.out wr hbw)
      clear hlt
      have hlt : ¬ ((ids.length : Int) < (ids.length : Int)) := by omega
      go_wp2_with (first
        | (go_at_call 25; refine H.out.mono ?_; rintro e w' ⟨rfl, rfl⟩)
        | fail)
      go_ret
      exact ⟨rfl, hbw⟩
end Go.Proofs.Ytfhmdphcgcmaeaa
