/-
  Package net: Look.
-/
import Derived.Test.YtfhmdphcgcmaeaaNet3
import Derived.Laws.ResultCell
set_option linter.unusedVariables false
set_option linter.unusedSimpArgs false
namespace Go.Proofs.Ytfhmdphcgcmaeaa
open Go.RowKit

/-- A result in a block of its own, and a plain one. -/
theorem results_row_tmp {P : Program} {fn : Func} {p u : Tmp} {ty : TypeId} (h : fn.results = #[.cell p ty, .tmp u]) (tmps : Array Value) (w : World) (g : Nat) (t : TypeId) (cs : Array Value) (fr : Nat × Nat) (d : TypeDesc)
    (hp : tmps.getD p undef = .pointer (some ⟨g, 0, none⟩)) (hg : w.heap[g]? = some (.cells cs t fr))
    (hu : P.underlying ty = some d) (hd : (match d with | .struct _ | .array _ _ => true | _ => false) = true) (hi : (P.info? ty).map (·.size) = some cs.size) :
    (results fn tmps).run P w = .ok (.tuple #[.agg cs, tmps.getD u undef]) w := by
  have hp' : tmps[p]?.getD undef = .pointer (some ⟨g, 0, none⟩) := by simpa using hp
  simp [results, h, hp', asAddr, run_loadVar_row w g t ty cs fr d hg hu hd hi]
/-- The kth letter, or none. -/
def lookL (ls : List Lt) (k : Int) : Lt := if k < 0 ∨ (ls.length : Int) ≤ k then (0, 0, []) else ls.getD k.toNat (0, 0, [])
theorem lookL_none {ls : List Lt} {k : Int} (h : k < 0 ∨ (ls.length : Int) ≤ k) : lookL ls k = (0, 0, []) := if_pos h
theorem lookL_some {ls : List Lt} {k : Nat} (h : k < ls.length) : lookL ls (k : Int) = ls[k] := by
  unfold lookL
  rw [if_neg (by omega)]
  simp [h]
/-- A letter in new memory, and an answer. -/
def RetLook (w : World) (l : Lt) (err : Int) (e : Ending) (w' : World) : Prop :=
  ∃ A c, e = .returned (.tuple #[.agg #[.int .i64 l.1, .int .i64 l.2.1, .slice A l.2.2.length c], .int .i64 err]) ∧ w'.ownsRow w.heap.size 5 1 (.slice A l.2.2.length c) l.2.2.length (u8s l.2.2) ∧ Below w.heap.size w w'
def zeroLt : Obj := .cells #[.int .i64 0, .int .i64 0, .slice none 0 0] 33 (0, 0)
set_option maxHeartbeats 1000000 in
theorem look_any {S : Nat → Prop} {g : Nat} {most : Int} {ls : List Lt} {wl : List Bool} (k : Int) (w : World) (h : NetAt S g most ls wl w) (hm : most ≠ 0) (hb : ∀ l ∈ ls, l.2.2.length ≤ 1048576) :
    Calls Try.prog 16 #[.pointer (some ⟨g, 0, none⟩), .int .i64 k] w (RetLook w (lookL ls k) (atE k ls.length)) := by
  have hal := (Below.refl w.heap.size w).alloc (Nat.le_refl _) (.cells #[.int .i64 0, .int .i64 0, .slice none 0 0] 33)
  have hN := h.below hal
  have x0 : (w.alloc (.cells #[.int .i64 0, .int .i64 0, .slice none 0 0] 33)).heap[w.heap.size]? = some (.cells #[.int .i64 0, .int .i64 0, .slice none 0 0] 33 (0, 0)) := heap_alloc_new w _
  by_cases hk : k < 0 ∨ (ls.length : Int) ≤ k
  · have ha : atE k ls.length = 3 := if_pos hk
    have hl := lookL_none hk
    have hA := at_any k _ hN hm
    rw [ha] at hA
    rw [ha, hl]
    clear hN hk ha
    go_enter Try.func16, Try.ntmps16
    go_wp2_with (first
      | (go_at_call 28; refine hA.mono ?_; rintro e w' ⟨rfl, rfl⟩)
      | fail)
    have hr : (w.alloc (.cells #[.int .i64 0, .int .i64 0, .slice none 0 0] 33)).heap[w.heap.size]? = some (.cells #[.int .i64 0, .int .i64 0, .slice none 0 0] 33 (0, 0)) := x0
    refine bodyPost_ret (results_row_tmp rfl _ _ w.heap.size _ _ _ _ rfl x0 Try.underlying33 rfl (by kernel_rfl)) rfl ?_
    exact ⟨none, 0, rfl, ⟨rfl, .inl ⟨rfl, rfl⟩⟩, hal⟩
  · obtain ⟨j, rfl⟩ : ∃ j : Nat, (j : Int) = k := ⟨k.toNat, by omega⟩
    have hj : j < ls.length := by omega
    have ha : atE (j : Int) ls.length = 0 := if_neg hk
    have hl := lookL_some hj
    have hA := at_any (j : Int) _ hN hm
    have hbl := hb _ (List.getElem_mem hj)
    rw [ha] at hA
    rw [ha, hl]
    obtain ⟨R, cr, cells, h1, h2, h3, h4, h5, h6⟩ := id hN
    obtain ⟨cs, hcl, ⟨A1, c1, rfl, ho1, hs1⟩, hcs⟩ := h6.get (List.getElem?_eq_getElem hj)
    obtain ⟨hrc, gr, rfl, _, hgr⟩ := own_pos h4 (by omega)
    obtain ⟨_, _, _, hsee⟩ := sees_own' h4
    obtain ⟨k0, k1, _, hfz⟩ := net_cells h1
    have r0 : (w.alloc (.cells #[.int .i64 0, .int .i64 0, .slice none 0 0] 33)).cell? ⟨gr, j * 3, none⟩ = some (.int .i64 ls[j].1) := by
      obtain ⟨ad, e, hc⟩ := hsee (j * 3) _ (hcs 0 _ rfl); cases e; rw [add_base] at hc; exact hc
    have r1 : (w.alloc (.cells #[.int .i64 0, .int .i64 0, .slice none 0 0] 33)).cell? ⟨gr, j * 3 + 1, none⟩ = some (.int .i64 ls[j].2.1) := by
      obtain ⟨ad, e, hc⟩ := hsee (j * 3 + 1) _ (hcs 1 _ rfl); cases e; rw [add_base] at hc; exact hc
    have r2 : (w.alloc (.cells #[.int .i64 0, .int .i64 0, .slice none 0 0] 33)).cell? ⟨gr, j * 3 + 2, none⟩ = some (.slice A1 ls[j].2.2.length c1) := by
      obtain ⟨ad, e, hc⟩ := hsee (j * 3 + 2) _ (hcs 2 _ rfl); cases e; rw [add_base] at hc; exact hc
    obtain ⟨_, hc1, _, hsee1⟩ := sees_own' ho1
    have hlen := (sees_own' h4).2.2.1
    unfold maxLen at hlen
    clear hN h4 h5 h6 hcs hsee ho1 h1 hk ha hl k0 hfz
    go_enter Try.func16, Try.ntmps16
    go_wp2_with (first
      | (go_at_call 28; refine hA.mono ?_; rintro e w' ⟨rfl, rfl⟩)
      | (go_at_call 27; refine (own_any _ _ _ _ _ _ hc1 (by omega) hsee1).mono ?_; rintro e w3 ⟨A3, c3, rfl, hown3, hb3⟩; have y0 := (hb3.block w.heap.size (by simp)).trans x0; have c10 := cell_of_row w3 _ 0 _ _ _ y0; have c11 := cell_of_row w3 _ 1 _ _ _ y0; have c12 := cell_of_row w3 _ 2 _ _ _ y0; have f10 := frozen_of_cells y0; simp at c10 c11 c12)
      | fail)
    have hrow : (((w3.setCell ⟨w.heap.size, 0, none⟩ (.int .i64 ls[j].1)).setCell ⟨w.heap.size, 1, none⟩ (.int .i64 ls[j].2.1)).setCell ⟨w.heap.size, 2, none⟩ (.slice A3 ls[j].2.2.length c3)).heap[w.heap.size]? = some (.cells #[.int .i64 ls[j].1, .int .i64 ls[j].2.1, .slice A3 ls[j].2.2.length c3] 33 (0, 0)) := by
      simp [World.setCell, Array.getElem?_modify, y0]
    refine bodyPost_ret (results_row_tmp rfl _ _ w.heap.size _ _ _ _ rfl hrow Try.underlying33 rfl (by kernel_rfl)) rfl ?_
    have hB3 := below_step hal (by simp) hb3
    refine ⟨A3, c3, rfl, ?_, (((hB3.setCell (by simp) _).setCell (by simp) _).setCell (by simp) _)⟩
    exact own_lower (ownsRow_setCell_below (ownsRow_setCell_below (ownsRow_setCell_below hown3 (by simp) _) (by simp) _) (by simp) _) (by simp)
end Go.Proofs.Ytfhmdphcgcmaeaa
