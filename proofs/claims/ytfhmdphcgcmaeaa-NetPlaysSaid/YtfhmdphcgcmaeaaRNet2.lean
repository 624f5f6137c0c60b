/-
  The reference's net: Look, Next, New, Clear.
-/
import Derived.Test.YtfhmdphcgcmaeaaRNet1
set_option linter.unusedVariables false
set_option linter.unusedSimpArgs false
namespace Go.Proofs.Ytfhmdphcgcmaeaa
open Go.RowKit

section
variable {S : Nat → Prop} {g : Nat} {most : Int} {ls : List Lt} {ids : List Int}
theorem ref_letter {W : World} (h : RefAt S g most ls ids W) {k : Nat} (hk : k < ls.length) :
    ∃ gr c A1 c1, W.cell? ⟨g, 1, none⟩ = some (.slice (some ⟨gr, 0, none⟩) ls.length c) ∧ ls.length ≤ c ∧ c ≤ maxLen ∧ gr < W.heap.size ∧ g < W.heap.size ∧
      W.cell? ⟨gr, k * 3, none⟩ = some (.int .i64 ls[k].1) ∧ W.cell? ⟨gr, k * 3 + 1, none⟩ = some (.int .i64 ls[k].2.1) ∧ W.cell? ⟨gr, k * 3 + 2, none⟩ = some (.slice A1 ls[k].2.2.length c1) ∧ W.ownsRow 0 5 1 (.slice A1 ls[k].2.2.length c1) ls[k].2.2.length (u8s ls[k].2.2) := by
  obtain ⟨A, c, cells, B, d, h⟩ := h
  obtain ⟨cs, hcl, ⟨A1, c1, rfl, ho1, hs1⟩, hcs⟩ := h.recs.get (List.getElem?_eq_getElem hk)
  have h4 := h.lrow
  have h1 := h.row
  obtain ⟨hrc, gr, rfl, _, hgr⟩ := own_pos h4 (by omega)
  obtain ⟨_, _, hcm, hsee⟩ := sees_own' h4
  refine ⟨gr, c, A1, c1, (ref_cells h1).2.1, hrc, hcm, hgr, (Array.getElem?_eq_some_iff.1 h1).1, ?_, ?_, ?_, ho1⟩
  · obtain ⟨ad, e, hc⟩ := hsee (k * 3) _ (hcs 0 _ rfl); cases e; rw [add_base] at hc; exact hc
  · obtain ⟨ad, e, hc⟩ := hsee (k * 3 + 1) _ (hcs 1 _ rfl); cases e; rw [add_base] at hc; exact hc
  · obtain ⟨ad, e, hc⟩ := hsee (k * 3 + 2) _ (hcs 2 _ rfl); cases e; rw [add_base] at hc; exact hc
/-- A letter of the reference's, and an answer. -/
def RetLookR (w : World) (l : Lt) (err : Int) (e : Ending) (w' : World) : Prop :=
  ∃ A c, e = .returned (.tuple #[.agg #[.int .i64 l.1, .int .i64 l.2.1, .slice A l.2.2.length c], .int .i64 err]) ∧ l.2.2.length ≤ c ∧ w'.ownsRow 0 5 1 (.slice A l.2.2.length c) l.2.2.length (u8s l.2.2) ∧ Below w.heap.size w w'
theorem reflook_any (k : Int) (w : World) (h : RefAt S g most ls ids w) :
    Calls Try.prog 37 #[.pointer (some ⟨g, 0, none⟩), .int .i64 k] w (RetLookR w (lookL ls k) (atE k ls.length)) := by
  have hal := (Below.refl w.heap.size w).alloc (Nat.le_refl _) (.cells #[.int .i64 0, .int .i64 0, .slice none 0 0] 35)
  have hN := h.below hal
  have x0 : (w.alloc (.cells #[.int .i64 0, .int .i64 0, .slice none 0 0] 35)).heap[w.heap.size]? = some (.cells #[.int .i64 0, .int .i64 0, .slice none 0 0] 35 (0, 0)) := heap_alloc_new w _
  by_cases hk : k < 0 ∨ (ls.length : Int) ≤ k
  · have ha : atE k ls.length = 3 := if_pos hk
    have hl := lookL_none hk
    rw [ha, hl]
    obtain ⟨A, c, cells, B, d, hr⟩ := hN
    have k1 := (ref_cells hr.row).2.1
    clear hr h ha hl
    by_cases hk0 : k < 0
    · clear hk
      go_enter Try.func37, Try.ntmps37
      go_wp2
      refine bodyPost_ret (results_row_tmp rfl _ _ w.heap.size _ _ _ _ rfl x0 Try.underlying35 rfl (by kernel_rfl)) rfl ?_
      exact ⟨none, 0, rfl, Nat.le_refl _, ⟨rfl, .inl ⟨rfl, rfl⟩⟩, hal⟩
    · have hk1 : (ls.length : Int) ≤ k := by omega
      clear hk
      go_enter Try.func37, Try.ntmps37
      go_wp2
      refine bodyPost_ret (results_row_tmp rfl _ _ w.heap.size _ _ _ _ rfl x0 Try.underlying35 rfl (by kernel_rfl)) rfl ?_
      exact ⟨none, 0, rfl, Nat.le_refl _, ⟨rfl, .inl ⟨rfl, rfl⟩⟩, hal⟩
  · obtain ⟨j, rfl⟩ : ∃ j : Nat, (j : Int) = k := ⟨k.toNat, by omega⟩
    have hj : j < ls.length := by omega
    have ha : atE (j : Int) ls.length = 0 := if_neg hk
    rw [ha, lookL_some hj]
    obtain ⟨gr, c, A1, c1, k1', hrc, hcm, hgr, hgl, r0', r1', r2', ho⟩ := ref_letter h hj
    have k1 := (hal.cell (p := ⟨g, 1, none⟩) hgl).trans k1'
    have r0 := (hal.cell (p := ⟨gr, j * 3, none⟩) hgr).trans r0'
    have r1 := (hal.cell (p := ⟨gr, j * 3 + 1, none⟩) hgr).trans r1'
    have r2 := (hal.cell (p := ⟨gr, j * 3 + 2, none⟩) hgr).trans r2'
    have hS := (sees_own' ho).2.2.2
    have hc1 := (sees_own' ho).2.1
    have y0 := cell_of_row _ _ 0 _ _ _ x0
    have HS := Lib.hid ho
    unfold maxLen at hcm
    obtain ⟨l, hll⟩ : ∃ l, ls[j] = l := ⟨_, rfl⟩
    rw [hll] at r0 r1 r2 HS hc1 ⊢
    have hk0 : ¬ ((j : Int) < 0) := by omega
    have hk1 : ¬ ((ls.length : Int) ≤ (j : Int)) := by omega
    clear hk ha hS ho hN h hll k1' r0' r1' r2'
    go_enter Try.func37, Try.ntmps37
    go_wp2
    have hal2 := (Below.refl w.heap.size w).alloc (Nat.le_refl _) (.cells #[.int .i64 l.1, .int .i64 l.2.1, .slice A1 l.2.2.length c1] 35)
    have x2 : (w.alloc (.cells #[.int .i64 l.1, .int .i64 l.2.1, .slice A1 l.2.2.length c1] 35)).heap[w.heap.size]? = some (.cells #[.int .i64 l.1, .int .i64 l.2.1, .slice A1 l.2.2.length c1] 35 (0, 0)) := heap_alloc_new w _
    refine bodyPost_ret (results_row_tmp rfl _ _ w.heap.size _ _ _ _ rfl x2 Try.underlying35 rfl (by kernel_rfl)) rfl ?_
    exact ⟨A1, c1, rfl, hc1, own_keep HS.out hal2, hal2⟩
theorem refnew_none (m : Int) (w : World) (h : m < 1 ∨ 10000 < m) : Calls Try.prog 22 #[.int .i64 m] w fun e w' => e = .returned (.pointer none) ∧ w = w' := by
  rcases h with h | h
  · go_enter Try.func22, Try.ntmps22
    go_wp2
    go_ret
    exact ⟨rfl, rfl⟩
  · have h' : ¬ m < 1 := by omega
    go_enter Try.func22, Try.ntmps22
    go_wp2
    go_ret
    exact ⟨rfl, rfl⟩
def RetRefNew (m : Int) (w : World) (e : Ending) (w' : World) : Prop := e = .returned (.pointer (some ⟨w.heap.size, 0, none⟩)) ∧ RefAt (fun b => b = w.heap.size) w.heap.size m [] [] w' ∧ Below w.heap.size w w'
theorem refnew_ok (m : Int) (w : World) (h1 : 1 ≤ m) (h2 : m ≤ 10000) : Calls Try.prog 22 #[.int .i64 m] w (RetRefNew m w) := by
  go_enter Try.func22, Try.ntmps22
  go_wp2
  go_ret
  refine ⟨rfl, ⟨none, 0, [], none, 0, ?_, rfl, ⟨rfl, .inl ⟨rfl, rfl⟩⟩, fun b hb => by simp [Value.ownBlock] at hb, Recs.nil, ⟨rfl, .inl ⟨rfl, rfl⟩⟩, fun b hb => by simp [Value.ownBlock] at hb⟩, (Below.refl _ w).alloc (Nat.le_refl _) _⟩
  exact heap_alloc_new w _
theorem refRow_set {W : World} {A A' B : Option Addr} {n c m d n' c' : Nat} (h : W.heap[g]? = some (refObj most A n c B m d)) : (W.setCell ⟨g, 1, none⟩ (.slice A' n' c')).heap[g]? = some (refObj most A' n' c' B m d) := by
  simp [World.setCell, Array.getElem?_modify, h, refObj]
theorem refRow_ids {W : World} {A B B' : Option Addr} {n c m d m' d' : Nat} (h : W.heap[g]? = some (refObj most A n c B m d)) : (W.setCell ⟨g, 2, none⟩ (.slice B' m' d')).heap[g]? = some (refObj most A n c B' m' d') := by
  simp [World.setCell, Array.getElem?_modify, h, refObj]
/-- Behind a call that changes a reference's net. -/
def RetR (S : Nat → Prop) (g : Nat) (most : Int) (v : Value) (ls : List Lt) (ids : List Int) (w : World) (e : Ending) (w' : World) : Prop := e = .returned v ∧ RefAt (Plus S w) g most ls ids w' ∧ Outside S w w'
theorem refclear_any (w : World) (h : RefAt S g most ls ids w) : Calls Try.prog 36 #[.pointer (some ⟨g, 0, none⟩)] w (RetR S g most (.int .i64 (ls.length : Int)) [] ids w) := by
  obtain ⟨A, c, cells, B, d, hr⟩ := h
  obtain ⟨_, k1, _, hfz⟩ := ref_cells hr.row
  have H := Lib.hid hr
  clear hr
  go_enter Try.func36, Try.ntmps36
  go_wp2
  go_ret
  have hr := H.out
  have hsame : ∀ b, b ≠ g → (w.setCell ⟨g, 1, none⟩ (.slice none 0 0)).heap[b]? = w.heap[b]? := fun b hb => Below.heap_setCell w _ _ b hb
  refine ⟨rfl, ⟨none, 0, [], B, d, refRow_set hr.row, .inl hr.own, ⟨rfl, .inl ⟨rfl, rfl⟩⟩, fun b hb => by simp [Value.ownBlock] at hb, Recs.nil, own_same hr.irow (fun b hb => hsame b (fun e => own_ne hr.irow hr.row (by decide) (by rw [hb, e]))), fun b hb => .inl (hr.iin b hb)⟩, rfl, rfl, rfl, by simp [World.setCell], fun b hb hs => hsame b (fun e => hs (by rw [e]; exact hr.own))⟩
theorem refnext_any (fr : Int) (w : World) (h : RefAt S g most ls ids w) (hlen : ls.length ≤ 10000) (hb : ∀ l ∈ ls, l.2.2.length ≤ 1048576) (wl : List Bool) (hw : ∀ l ∈ ls, openR ids l.1 l.2.1 l.2.2.length = openL wl l) :
    Calls Try.prog 38 #[.pointer (some ⟨g, 0, none⟩), .int .i64 fr] w (RetVal w (.int .i64 (nextN wl ls fr.toNat))) := by
  obtain ⟨T, hT⟩ : ∃ T, nextN wl ls fr.toNat = T := ⟨_, rfl⟩
  rw [hT]
  have H := Lib.hid h
  have HT := Lib.hid hT
  have HW := Lib.hid hw
  have HB := Lib.hid hb
  clear h hT hw hb
  go_enter Try.func38, Try.ntmps38
  go_wp2
  all_goals
    go_loopw [5] (fun i wr => ∃ k : Nat, i = .int .i64 (k : Int) ∧ nextN wl ls k = T ∧ Below w.heap.size w wr) (fun i _ => ls.length - (intOf i).toNat)
    case atStart => exact ⟨fr.toNat, by congr 1; omega, HT.out, Below.refl _ _⟩
    case round =>
      obtain ⟨k, rfl, hk, hbw⟩ := hrel
      have HK := Lib.hid hk
      have hN := H.out.below hbw
      by_cases hlt : k < ls.length
      · obtain ⟨gr, c, A1, c1, q1, hc, hcm, hgr, hgl, r0, r1, r2, _⟩ := ref_letter hN hlt
        have hbl := HB.out _ (List.getElem_mem hlt)
        have hO := refopen_any ls[k].1 ls[k].2.1 A1 ls[k].2.2.length c1 _ hN (by omega)
        rw [HW.out _ (List.getElem_mem hlt)] at hO
        have HO := Lib.hid hO
        unfold maxLen at hcm
        clear hk hO hN
        cases ho : openL wl ls[k] with
        | true =>
          go_wp2_with (first
            | (go_at_call 39; refine HO.out.mono ?_; rintro e w' ⟨rfl, hb'⟩; rw [ho])
            | fail)
          go_ret
          exact ⟨by rw [← HK.out, nextN_here hlt ho]; rfl, below_step hbw hbw.size hb'⟩
        | false =>
          go_wp2_with (first
            | (go_at_call 39; refine HO.out.mono ?_; rintro e w' ⟨rfl, hb'⟩; rw [ho])
            | fail)
          go_roundw
          case rel => exact ⟨k + 1, by go_num, by rw [← HK.out, nextN_on hlt ho], below_step hbw hbw.size hb'⟩
          case measure => simp [intOf]; omega
      · obtain ⟨A, c, cells, B, d, hr⟩ := hN
        have hq := (ref_cells hr.row).2.1
        have hge : ¬ ((k : Int) < (ls.length : Int)) := by omega
        clear hk hr
        go_wp2
        go_ret
        exact ⟨by rw [← HK.out, nextN_end (by omega)]; rfl, hbw⟩
end
end Go.Proofs.Ytfhmdphcgcmaeaa
