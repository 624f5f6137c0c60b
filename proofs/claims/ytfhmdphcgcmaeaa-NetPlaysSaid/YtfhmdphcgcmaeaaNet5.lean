/-
  Package net: Open.
-/
import Derived.Test.YtfhmdphcgcmaeaaNet4
import Derived.Test.YtfhmdphcgcmaeaaCalm
import Derived.ChangeKeysEq
import Derived.Deep.MidRow
set_option linter.unusedVariables false
set_option linter.unusedSimpArgs false
namespace Go.Proofs.Ytfhmdphcgcmaeaa
open Go.RowKit

theorem run_eqItems_bools {P : Program} (w : World) (d : Nat) {e : TypeId} (he : P.underlying e = some .bool) (hp : P.plainKey e = true) (h1 : P.cellsOf e = 1) (us vs : List Bool) (n : Nat) (ha : us.length = n) (hb : vs.length = n) :
    ∀ is : List Nat, (∀ i ∈ is, i < n) → (Op.eqItems (d + 1) e (P.cellsOf e) (us.map Value.bool).toArray (vs.map Value.bool).toArray is).run P w = .ok (is.all fun i => us[i]? == vs[i]?) w
  | [], _ => by simp [Op.eqItems]
  | i :: is, h => by
    have hi := h i List.mem_cons_self
    have ea : us[i]? = some us[i] := List.getElem?_eq_getElem (by omega)
    have eb : vs[i]? = some vs[i] := List.getElem?_eq_getElem (by omega)
    have pa : (part e (us.map Value.bool).toArray (i * P.cellsOf e)).run P w = .ok (.bool us[i]) w := run_part_plain w hp (by simp [h1, ea])
    have pb : (part e (vs.map Value.bool).toArray (i * P.cellsOf e)).run P w = .ok (.bool vs[i]) w := run_part_plain w hp (by simp [h1, eb])
    have ih := run_eqItems_bools w d he hp h1 us vs n ha hb is (fun j hj => h j (List.mem_cons_of_mem _ hj))
    simp only [Op.eqItems, Sem.run_bind, pa, pb, run_equalIn_bool w d e _ _ he, Result.andThen_ok, List.all_cons, ea, eb]
    by_cases hab : us[i] = vs[i]
    · simp [hab, ih]
    · simp [hab]
theorem infoBool : (Try.prog.info? 4).map (fun i => (i.zero, i.size, i.bytes)) = some (some (.bool false), 1, 1) := by kernel_rfl
/-- '==' of two walls. -/
theorem wall_eql (us vs : List Bool) (ha : us.length = 16) (hb : vs.length = 16) (w : World) : (binOp .eql 59 (.agg (us.map Value.bool).toArray) (.agg (vs.map Value.bool).toArray)).run Try.prog w = .ok (.bool (us == vs)) w := by
  obtain ⟨ib, hib, _⟩ := info_three infoBool
  rw [run_eql_struct, run_equalIn_array w 9999 _ _ Try.underlying59 hib, run_eqItems_bools w 9998 Try.underlying4 (by kernel_rfl) (by kernel_rfl) us vs 16 ha hb _ (fun i hi => List.mem_range.1 hi)]
  simp only [Result.andThen_ok]
  congr 2
  rw [Bool.eq_iff_iff]
  simp only [List.all_eq_true, List.mem_range, beq_iff_eq]
  constructor
  · intro h
    refine List.ext_getElem? fun i => ?_
    by_cases hi : i < 16
    · exact h i hi
    · rw [List.getElem?_eq_none (by omega), List.getElem?_eq_none (by omega)]
  · intro h i _
    rw [h]
/-- Does a letter pass a wall? -/
def openB (wl : List Bool) (f t : Int) (n : Nat) : Bool := (serverB f && (serverB t && ((f != t) && decide (n ≤ 1048576)))) && (wl.getD f.toNat false == wl.getD t.toNat false)
theorem serverB_nat {i : Int} (h : serverB i = true) : ∃ j : Nat, (j : Int) = i ∧ j < 16 := by
  simp [serverB] at h
  exact ⟨i.toNat, by omega, by omega⟩
theorem open_cells {W : World} {g : Nat} {most : Int} {A : Option Addr} {n c : Nat} {wl : List Bool} (h : W.heap[g]? = some (netObj most A n c wl)) : W.rangeAt g 2 (wl.map Value.bool) := fun j v hv => by
  unfold netObj at h
  rw [cell_of_row W g (2 + j) _ _ _ h, Array.getElem?_append_right (by simp)]
  simpa using hv
theorem open16_getD (i : Nat) : open16.getD i false = false := by
  unfold open16
  rw [List.getD_eq_getElem?_getD, List.getElem?_replicate]
  split <;> rfl
set_option maxHeartbeats 1000000 in
theorem open_any {S : Nat → Prop} {g : Nat} {most : Int} {ls : List Lt} {wl : List Bool} (f t : Int) (A : Option Addr) (n c : Nat) (w : World) (h : NetAt S g most ls wl w) (hm : most ≠ 0) (hn : n ≤ 140737488355328) :
    Calls Try.prog 21 #[.pointer (some ⟨g, 0, none⟩), .agg #[.int .i64 f, .int .i64 t, .slice A n c]] w (RetVal w (.bool (openB wl f t n))) := by
  obtain ⟨R, cr, cells, h1, h2, h3, h4, h5, h6⟩ := id h
  obtain ⟨W, hW⟩ : ∃ W, w.alloc (.cells #[.int .i64 f, .int .i64 t, .slice A n c] 33) = W := ⟨_, rfl⟩
  have hal : Below w.heap.size w W := by rw [← hW]; exact (Below.refl w.heap.size w).alloc (Nat.le_refl _) _
  have x0 : W.heap[w.heap.size]? = some (.cells #[.int .i64 f, .int .i64 t, .slice A n c] 33 (0, 0)) := by rw [← hW]; exact heap_alloc_new w _
  have hz : W.heap.size = w.heap.size + 1 := by rw [← hW]; simp
  have hgl := (Array.getElem?_eq_some_iff.1 h1).1
  have hg := (hal.block g hgl).trans h1
  have b1 : (most == 0) = false := by simp [hm]
  cases hr : (serverB f && (serverB t && ((f != t) && decide (n ≤ 1048576)))) with
  | false =>
    have ho : openB wl f t n = false := by simp [openB, hr]
    rw [ho]
    have hcell : ∀ W', Below W.heap.size W W' → W'.cell? ⟨w.heap.size, 0, none⟩ = some (.int .i64 f) ∧ W'.cell? ⟨w.heap.size, 1, none⟩ = some (.int .i64 t) ∧ W'.cell? ⟨w.heap.size, 2, none⟩ = some (.slice A n c) ∧ W'.cell? ⟨g, 0, none⟩ = some (.int .i64 most) := by
      intro W' hb
      have y := (hb.block w.heap.size (by omega)).trans x0
      have yg := (hb.block g (by omega)).trans hg
      exact ⟨by rw [cell_of_row W' _ 0 _ _ _ y]; rfl, by rw [cell_of_row W' _ 1 _ _ _ y]; rfl, by rw [cell_of_row W' _ 2 _ _ _ y]; rfl, (net_cells yg).1⟩
    have H := Lib.hid h
    have HW := Lib.hid hW
    clear h hW h1 h4 h5 h6 x0 hg
    go_enter Try.func21, Try.ntmps21
    go_wp2
    rw [HW.out]
    refine wp_region_calm (Later W) (by kernel_rfl) (by kernel_rfl) (Below.refl _ _).drew (fun hne => ?_)
    have c0 := fun p : InS (Later W) => (hcell p.w p.h).1
    have c1 := fun p : InS (Later W) => (hcell p.w p.h).2.1
    have c2 := fun p : InS (Later W) => (hcell p.w p.h).2.2.1
    have c3 := fun p : InS (Later W) => (hcell p.w p.h).2.2.2
    clear hcell
    repeat (go_big_quiet_step (first
      | (go_at_call 25; exact calm_of (none_any g most _ (c3 _)) (by rintro e w' ⟨rfl, rfl⟩; exact ⟨by rw [b1], InS.h _⟩))
      | (go_at_call 26; exact calm_of (right_any f t A n c _ hn) (by rintro e w' ⟨rfl, hb⟩; exact ⟨by rw [hr], later_step (InS.h _) hb⟩))
      | fail))
    refine wpQuiet_nil ?_
    rintro _ ⟨p, rfl⟩
    go_wp2
    go_ret
    exact ⟨rfl, below_step hal hal.size p.h⟩
  | true =>
    simp only [Bool.and_eq_true] at hr
    obtain ⟨hf, ht, hft, hn2⟩ := hr
    have hr : (serverB f && (serverB t && ((f != t) && decide (n ≤ 1048576)))) = true := by simp only [hf, ht, hft, hn2, Bool.and_self]
    obtain ⟨fi, rfl, hfi⟩ := serverB_nat hf
    obtain ⟨ti, rfl, hti⟩ := serverB_nat ht
    have ho : openB wl (fi : Int) (ti : Int) n = (wl.getD fi false == wl.getD ti false) := by unfold openB; rw [hr]; simp
    rw [ho]
    have hwe := fun W : World => wall_eql wl open16 h2 rfl W
    have hcell : ∀ W', Below W.heap.size W W' → W'.cell? ⟨w.heap.size, 0, none⟩ = some (.int .i64 (fi : Int)) ∧ W'.cell? ⟨w.heap.size, 1, none⟩ = some (.int .i64 (ti : Int)) ∧ W'.cell? ⟨w.heap.size, 2, none⟩ = some (.slice A n c) ∧ W'.cell? ⟨g, 0, none⟩ = some (.int .i64 most) ∧ W'.rangeAt g 2 (wl.map Value.bool) ∧ W'.cell? ⟨g, 2 + fi, none⟩ = some (.bool (wl.getD fi false)) ∧ W'.cell? ⟨g, 2 + ti, none⟩ = some (.bool (wl.getD ti false)) := by
      intro W' hb
      have y := (hb.block w.heap.size (by omega)).trans x0
      have yg := (hb.block g (by omega)).trans hg
      refine ⟨by rw [cell_of_row W' _ 0 _ _ _ y]; rfl, by rw [cell_of_row W' _ 1 _ _ _ y]; rfl, by rw [cell_of_row W' _ 2 _ _ _ y]; rfl, (net_cells yg).1, open_cells yg, (net_cells yg).2.2.1 fi _ ?_, (net_cells yg).2.2.1 ti _ ?_⟩
      · rw [List.getD_eq_getElem?_getD, List.getElem?_eq_getElem (by omega)]; rfl
      · rw [List.getD_eq_getElem?_getD, List.getElem?_eq_getElem (by omega)]; rfl
    have H := Lib.hid h
    have HW := Lib.hid hW
    clear h hW h1 h4 h5 h6 x0 hg hf ht hft hn2
    cases hz16 : wl == open16 with
    | true =>
      rw [hz16] at hwe
      have hw0 : (wl.getD fi false == wl.getD ti false) = true := by
        have : wl = open16 := by simpa using hz16
        rw [this]
        simp only [open16_getD, beq_self_eq_true]
      rw [hw0]
      go_enter Try.func21, Try.ntmps21
      go_wp2
      rw [HW.out]
      refine wp_region_calm (Later W) (by kernel_rfl) (by kernel_rfl) (Below.refl _ _).drew (fun hne => ?_)
      have c0 := fun p : InS (Later W) => (hcell p.w p.h).1
      have c1 := fun p : InS (Later W) => (hcell p.w p.h).2.1
      have c2 := fun p : InS (Later W) => (hcell p.w p.h).2.2.1
      have c3 := fun p : InS (Later W) => (hcell p.w p.h).2.2.2.1
      have c4 := fun p : InS (Later W) => (hcell p.w p.h).2.2.2.2.1
      have c5 := fun p : InS (Later W) => (hcell p.w p.h).2.2.2.2.2.1
      have c6 := fun p : InS (Later W) => (hcell p.w p.h).2.2.2.2.2.2
      clear hcell
      have hi16 : (Try.prog.info? 59).map (·.size) = some (wl.map Value.bool).length := by rw [List.length_map, h2]; kernel_rfl
      repeat (first
        | (go_big_quiet_step (first
          | (go_at_call 25; exact calm_of (none_any g most _ (c3 _)) (by rintro e w' ⟨rfl, rfl⟩; exact ⟨by rw [b1], InS.h _⟩))
          | (go_at_call 26; exact calm_of (right_any _ _ A n c _ hn) (by rintro e w' ⟨rfl, hb⟩; exact ⟨by rw [hr], later_step (InS.h _) hb⟩))
          | fail))
        | (go_big_quiet_want; refine quiet_load_mid _ _ rfl _ _ rfl _ _ (by rintro _ ⟨p, rfl⟩; exact c4 p) Try.underlying59 rfl hi16 ?_; go_big_quiet_on; simp only [Act.put, List.setIfInBounds_toArray, List.set_cons_zero, List.set_cons_succ])
        | (go_big_quiet_want; refine quiet_eql _ _ _ _ rfl _ _ rfl rfl _ (by kernel_rfl) hwe ?_; go_big_quiet_on; simp only [Act.put, List.setIfInBounds_toArray, List.set_cons_zero, List.set_cons_succ]))
      refine wpQuiet_nil ?_
      rintro _ ⟨p, rfl⟩
      go_wp2
      go_ret
      exact ⟨rfl, below_step hal hal.size p.h⟩
    | false =>
      rw [hz16] at hwe
      go_enter Try.func21, Try.ntmps21
      go_wp2
      rw [HW.out]
      refine wp_region_calm (Later W) (by kernel_rfl) (by kernel_rfl) (Below.refl _ _).drew (fun hne => ?_)
      have c0 := fun p : InS (Later W) => (hcell p.w p.h).1
      have c1 := fun p : InS (Later W) => (hcell p.w p.h).2.1
      have c2 := fun p : InS (Later W) => (hcell p.w p.h).2.2.1
      have c3 := fun p : InS (Later W) => (hcell p.w p.h).2.2.2.1
      have c4 := fun p : InS (Later W) => (hcell p.w p.h).2.2.2.2.1
      have c5 := fun p : InS (Later W) => (hcell p.w p.h).2.2.2.2.2.1
      have c6 := fun p : InS (Later W) => (hcell p.w p.h).2.2.2.2.2.2
      clear hcell
      have hi16 : (Try.prog.info? 59).map (·.size) = some (wl.map Value.bool).length := by rw [List.length_map, h2]; kernel_rfl
      repeat (first
        | (go_big_quiet_step (first
          | (go_at_call 25; exact calm_of (none_any g most _ (c3 _)) (by rintro e w' ⟨rfl, rfl⟩; exact ⟨by rw [b1], InS.h _⟩))
          | (go_at_call 26; exact calm_of (right_any _ _ A n c _ hn) (by rintro e w' ⟨rfl, hb⟩; exact ⟨by rw [hr], later_step (InS.h _) hb⟩))
          | fail))
        | (go_big_quiet_want; refine quiet_load_mid _ _ rfl _ _ rfl _ _ (by rintro _ ⟨p, rfl⟩; exact c4 p) Try.underlying59 rfl hi16 ?_; go_big_quiet_on; simp only [Act.put, List.setIfInBounds_toArray, List.set_cons_zero, List.set_cons_succ])
        | (go_big_quiet_want; refine quiet_eql _ _ _ _ rfl _ _ rfl rfl _ (by kernel_rfl) hwe ?_; go_big_quiet_on; simp only [Act.put, List.setIfInBounds_toArray, List.set_cons_zero, List.set_cons_succ]))
      refine wpQuiet_nil ?_
      rintro _ ⟨p, rfl⟩
      go_wp2
      go_ret
      have hfl : fi < wl.length := by omega
      have htl : ti < wl.length := by omega
      refine ⟨?_, below_step hal hal.size p.h⟩
      simp [List.getD_eq_getElem?_getD, hfl, htl]
end Go.Proofs.Ytfhmdphcgcmaeaa
