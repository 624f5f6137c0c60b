/-
  The reference's net: servers, letters, a net in memory; what reads it.
-/
import Derived.Test.YtfhmdphcgcmaeaaNetInv
set_option linter.unusedVariables false
set_option linter.unusedSimpArgs false
namespace Go.Proofs.Ytfhmdphcgcmaeaa
open Go.RowKit

theorem id_any (i : Int) (w : World) : Calls Try.prog 43 #[.int .i64 i] w fun e w' => e = .returned (.bool (serverB i)) ∧ w = w' := by
  by_cases h0 : 0 ≤ i
  · by_cases h1 : i < 16
    · have h : serverB i = true := by simp [serverB, h0, h1]
      rw [h]
      go_enter Try.func43, Try.ntmps43
      go_wp2
      go_ret
      exact ⟨rfl, rfl⟩
    · have h : serverB i = false := by simp [serverB, h1]
      rw [h]
      go_enter Try.func43, Try.ntmps43
      go_wp2
      go_ret
      exact ⟨rfl, rfl⟩
  · have h : serverB i = false := by simp [serverB, h0]
    rw [h]
    go_enter Try.func43, Try.ntmps43
    go_wp2
    go_ret
    exact ⟨rfl, rfl⟩
def right4 (f t : Int) (n : Nat) : Bool := serverB f && (serverB t && ((f != t) && decide (n ≤ 1048576)))
theorem refright_any (f t : Int) (A : Option Addr) (n c : Nat) (w : World) (hn : n ≤ 140737488355328) : Calls Try.prog 41 #[.agg #[.int .i64 f, .int .i64 t, .slice A n c]] w (RetVal w (.bool (right4 f t n))) := by
  have hal := (Below.refl w.heap.size w).alloc (Nat.le_refl _) (.cells #[.int .i64 f, .int .i64 t, .slice A n c] 35)
  unfold right4
  cases hf : serverB f with
  | false =>
    go_enter Try.func41, Try.ntmps41
    go_wp2_with (first
      | (go_at_call 43; refine (id_any f _).mono ?_; rintro e w' ⟨rfl, rfl⟩)
      | fail)
    go_ret
    exact ⟨rfl, hal⟩
  | true =>
    cases ht : serverB t with
    | false =>
      go_enter Try.func41, Try.ntmps41
      go_wp2_with (first
        | (go_at_call 43; refine (id_any _ _).mono ?_; rintro e w' ⟨rfl, rfl⟩)
        | fail)
      go_ret
      exact ⟨rfl, hal⟩
    | true =>
      by_cases hft : f = t
      · subst hft
        go_enter Try.func41, Try.ntmps41
        go_wp2_with (first
          | (go_at_call 43; refine (id_any _ _).mono ?_; rintro e w' ⟨rfl, rfl⟩)
          | fail)
        go_ret
        exact ⟨by simp, hal⟩
      · have b1 : (f != t) = true := by simp [hft]
        by_cases hn2 : n ≤ 1048576
        · have hn3 : (n : Int) ≤ 1048576 := by omega
          go_enter Try.func41, Try.ntmps41
          go_wp2_with (first
            | (go_at_call 43; refine (id_any _ _).mono ?_; rintro e w' ⟨rfl, rfl⟩)
            | fail)
          go_ret
          exact ⟨by simp [hft, hn2], hal⟩
        · have hn3 : ¬ (n : Int) ≤ 1048576 := by omega
          go_enter Try.func41, Try.ntmps41
          go_wp2_with (first
            | (go_at_call 43; refine (id_any _ _).mono ?_; rintro e w' ⟨rfl, rfl⟩)
            | fail)
          go_ret
          exact ⟨by simp [hft, hn2]; omega, hal⟩
def refObj (most : Int) (A : Option Addr) (n c : Nat) (B : Option Addr) (m d : Nat) : Obj := .cells #[.int .i64 most, .slice A n c, .slice B m d] 67 (0, 0)
/-- The reference's net in memory, in the blocks of S. -/
structure RefAtC (S : Nat → Prop) (g : Nat) (most : Int) (ls : List Lt) (ids : List Int) (W : World) (A : Option Addr) (c : Nat) (cells : List Value) (B : Option Addr) (d : Nat) : Prop where
  row : W.heap[g]? = some (refObj most A ls.length c B ids.length d)
  own : S g
  lrow : W.ownsRow 0 35 3 (.slice A ls.length c) ls.length cells
  lin : ∀ b, (Value.slice A ls.length c).ownBlock = some b → S b
  recs : Recs (ltOwn S) 3 W ls cells
  irow : W.ownsRow 0 3 1 (.slice B ids.length d) ids.length (ids.map intV)
  iin : ∀ b, (Value.slice B ids.length d).ownBlock = some b → S b
def RefAt (S : Nat → Prop) (g : Nat) (most : Int) (ls : List Lt) (ids : List Int) (W : World) : Prop := ∃ A c cells B d, RefAtC S g most ls ids W A c cells B d
theorem RefAt.keep {S : Nat → Prop} {g : Nat} {most : Int} {ls : List Lt} {ids : List Int} {W W' : World} (h : RefAt S g most ls ids W) (hk : ∀ b, b < W.heap.size → S b → W'.heap[b]? = W.heap[b]?) : RefAt S g most ls ids W' := by
  obtain ⟨A, c, cells, B, d, h⟩ := h
  have hlt : ∀ {b s n : Nat} {e : TypeId} {v : Value} {xs : List Value}, W.ownsRow b e s v n xs → ∀ k, v.ownBlock = some k → k < W.heap.size := fun ho k hk => (own_block_ge ho k hk).2
  refine ⟨A, c, cells, B, d, (hk g (Array.getElem?_eq_some_iff.1 h.row).1 h.own).trans h.row, h.own, own_same h.lrow (fun b hb => hk b (hlt h.lrow b hb) (h.lin b hb)), h.lin, h.recs.imp fun j l cs _ hl => ?_, own_same h.irow (fun b hb => hk b (hlt h.irow b hb) (h.iin b hb)), h.iin⟩
  obtain ⟨A1, c1, e, ho, hs⟩ := hl
  exact ⟨A1, c1, e, own_same ho (fun b hb => hk b (hlt ho b hb) (hs b hb)), hs⟩
theorem RefAt.below {S : Nat → Prop} {g : Nat} {most : Int} {ls : List Lt} {ids : List Int} {W W' : World} (h : RefAt S g most ls ids W) (hb : Below W.heap.size W W') : RefAt S g most ls ids W' := h.keep fun b hlt _ => hb.block b hlt
theorem RefAt.mono {S T : Nat → Prop} {g : Nat} {most : Int} {ls : List Lt} {ids : List Int} {W : World} (h : RefAt S g most ls ids W) (hT : ∀ b, b < W.heap.size → S b → T b) : RefAt T g most ls ids W := by
  obtain ⟨A, c, cells, B, d, h⟩ := h
  refine ⟨A, c, cells, B, d, h.row, hT g (Array.getElem?_eq_some_iff.1 h.row).1 h.own, h.lrow, fun b hb => hT b (own_block_ge h.lrow b hb).2 (h.lin b hb), h.recs.imp fun j l cs _ hl => ?_, h.irow, fun b hb => hT b (own_block_ge h.irow b hb).2 (h.iin b hb)⟩
  obtain ⟨A1, c1, e, ho, hs⟩ := hl
  exact ⟨A1, c1, e, ho, fun b hb => hT b (own_block_ge ho b hb).2 (hs b hb)⟩
theorem RefAt.cut {S : Nat → Prop} {g : Nat} {most : Int} {ls : List Lt} {ids : List Int} {W : World} (h : RefAt S g most ls ids W) : RefAt (Cut S W) g most ls ids W := h.mono fun b hb hs => ⟨hs, hb⟩
theorem ref_cells {W : World} {g : Nat} {most : Int} {A B : Option Addr} {n c m d : Nat} (h : W.heap[g]? = some (refObj most A n c B m d)) :
    W.cell? ⟨g, 0, none⟩ = some (.int .i64 most) ∧ W.cell? ⟨g, 1, none⟩ = some (.slice A n c) ∧ W.cell? ⟨g, 2, none⟩ = some (.slice B m d) ∧ ∀ j, W.frozen? ⟨g, j, none⟩ = false := by
  unfold refObj at h
  exact ⟨by rw [cell_of_row W g 0 _ _ _ h]; rfl, by rw [cell_of_row W g 1 _ _ _ h]; rfl, by rw [cell_of_row W g 2 _ _ _ h]; rfl, fun j => frozen_of_cells h j⟩
section
variable {S : Nat → Prop} {g : Nat} {most : Int} {ls : List Lt} {ids : List Int}
theorem inside_any (x : Int) (w : World) (h : RefAt S g most ls ids w) : Calls Try.prog 44 #[.pointer (some ⟨g, 0, none⟩), .int .i64 x] w fun e w' => e = .returned (.bool (ids.any (fun i => i == x))) ∧ w = w' := by
  obtain ⟨A, c, cells, B, d, h⟩ := h
  obtain ⟨_, _, k2, _⟩ := ref_cells h.row
  obtain ⟨_, _, hm, hsee⟩ := sees_own' h.irow
  have hlen := (sees_own' h.irow).2.1
  unfold maxLen at hm
  have HS := Lib.hid hsee
  clear h hsee
  go_enter Try.func44, Try.ntmps44
  go_wp2
  go_loop [5] (fun s5 => ∃ k : Nat, s5 = .int .i64 (k : Int) ∧ k ≤ ids.length ∧ (ids.take k).any (fun i => i == x) = false) (fun s5 => ids.length - (intOf s5).toNat)
  case atStart => exact ⟨0, rfl, Nat.zero_le _, rfl⟩
  case round =>
    obtain ⟨k, rfl, hk, hno⟩ := hrel
    have HNO := Lib.hid hno
    clear hno
    by_cases hlt : k < ids.length
    · obtain ⟨ad, rfl, hc⟩ := HS.out k (intV ids[k]) (by rw [List.getElem?_map, List.getElem?_eq_getElem hlt]; rfl)
      have hki : (k : Int) < (ids.length : Int) := by omega
      have htk : ids.take (k + 1) = ids.take k ++ [ids[k]] := by rw [List.take_succ_eq_append_getElem hlt]
      have HTK := Lib.hid htk
      unfold intV at hc
      clear htk
      by_cases hx : ids[k] = x
      · have hb : (ids[k] == x) = true := by simp [hx]
        go_wp2
        go_ret
        refine ⟨?_, rfl⟩
        have : ids.any (fun i => i == x) = true := List.any_eq_true.2 ⟨ids[k], List.getElem_mem hlt, hb⟩
        rw [this]
        rfl
      · have hb : (ids[k] == x) = false := by simp [hx]
        go_wp2
        go_round
        case rel => exact ⟨k + 1, by go_num, by omega, by rw [HTK.out, List.any_append, HNO.out]; simp [hb]⟩
        case measure => simp [intOf]; omega
    · obtain rfl : k = ids.length := by omega
      have hki : ¬ ((ids.length : Int) < (ids.length : Int)) := by omega
      go_wp2
      go_ret
      refine ⟨?_, rfl⟩
      have := HNO.out
      rw [List.take_length] at this
      rw [this]
      rfl
def openR (ids : List Int) (f t : Int) (n : Nat) : Bool := right4 f t n && (ids.any (fun i => i == f) == ids.any (fun i => i == t))
theorem refopen_any (f t : Int) (A : Option Addr) (n c : Nat) (w : World) (h : RefAt S g most ls ids w) (hn : n ≤ 140737488355328) :
    Calls Try.prog 39 #[.pointer (some ⟨g, 0, none⟩), .agg #[.int .i64 f, .int .i64 t, .slice A n c]] w (RetVal w (.bool (openR ids f t n))) := by
  obtain ⟨W, hW⟩ : ∃ W, w.alloc (.cells #[.int .i64 f, .int .i64 t, .slice A n c] 35) = W := ⟨_, rfl⟩
  have hal : Below w.heap.size w W := by rw [← hW]; exact (Below.refl w.heap.size w).alloc (Nat.le_refl _) _
  have x0 : W.heap[w.heap.size]? = some (.cells #[.int .i64 f, .int .i64 t, .slice A n c] 35 (0, 0)) := by rw [← hW]; exact heap_alloc_new w _
  have hzl := (Array.getElem?_eq_some_iff.1 x0).1
  have HH := Lib.hid (h.below hal)
  have HW := Lib.hid hW
  have hcell : ∀ W', Below W.heap.size W W' → W'.cell? ⟨w.heap.size, 0, none⟩ = some (.int .i64 f) ∧ W'.cell? ⟨w.heap.size, 1, none⟩ = some (.int .i64 t) ∧ W'.cell? ⟨w.heap.size, 2, none⟩ = some (.slice A n c) := by
    intro W' hb
    have y := (hb.block w.heap.size hzl).trans x0
    exact ⟨by rw [cell_of_row W' _ 0 _ _ _ y]; rfl, by rw [cell_of_row W' _ 1 _ _ _ y]; rfl, by rw [cell_of_row W' _ 2 _ _ _ y]; rfl⟩
  clear h hW x0
  unfold openR
  cases hr : right4 f t n with
  | false =>
    go_enter Try.func39, Try.ntmps39
    go_wp2
    rw [HW.out]
    refine wp_region_calm (Later W) (by kernel_rfl) (by kernel_rfl) (Below.refl _ _).drew (fun hne => ?_)
    have c0 := fun p : InS (Later W) => (hcell p.w p.h).1
    have c1 := fun p : InS (Later W) => (hcell p.w p.h).2.1
    have c2 := fun p : InS (Later W) => (hcell p.w p.h).2.2
    clear hcell
    repeat (go_big_quiet_step (first
      | (go_at_call 41; exact calm_of (refright_any f t A n c _ hn) (by rintro e w' ⟨rfl, hb⟩; exact ⟨by rw [hr], later_step (InS.h _) hb⟩))
      | fail))
    refine wpQuiet_nil ?_
    rintro _ ⟨p, rfl⟩
    go_wp2
    go_ret
    exact ⟨rfl, below_step hal hal.size p.h⟩
  | true =>
    obtain ⟨bf, hbf⟩ : ∃ b, ids.any (fun i => i == f) = b := ⟨_, rfl⟩
    obtain ⟨bt, hbt⟩ : ∃ b, ids.any (fun i => i == t) = b := ⟨_, rfl⟩
    rw [hbf, hbt]
    have HF := Lib.hid hbf
    have HT := Lib.hid hbt
    clear hbf hbt
    go_enter Try.func39, Try.ntmps39
    go_wp2
    rw [HW.out]
    refine wp_region_calm (Later W) (by kernel_rfl) (by kernel_rfl) (Below.refl _ _).drew (fun hne => ?_)
    have c0 := fun p : InS (Later W) => (hcell p.w p.h).1
    have c1 := fun p : InS (Later W) => (hcell p.w p.h).2.1
    have c2 := fun p : InS (Later W) => (hcell p.w p.h).2.2
    clear hcell
    repeat (go_big_quiet_step (first
      | (go_at_call 41; exact calm_of (refright_any f t A n c _ hn) (by rintro e w' ⟨rfl, hb⟩; exact ⟨by rw [hr], later_step (InS.h _) hb⟩))
      | (go_at_call_of 44 (Value.int .i64 f); exact calm_of (inside_any f _ (HH.out.below (InS.h _))) (by rintro e w' ⟨rfl, rfl⟩; exact ⟨by rw [HF.out], InS.h _⟩))
      | (go_at_call_of 44 (Value.int .i64 t); exact calm_of (inside_any t _ (HH.out.below (InS.h _))) (by rintro e w' ⟨rfl, rfl⟩; exact ⟨by rw [HT.out], InS.h _⟩))
      | fail))
    refine wpQuiet_nil ?_
    rintro _ ⟨p, rfl⟩
    go_wp2
    go_ret
    exact ⟨by simp, below_step hal hal.size p.h⟩
end
end Go.Proofs.Ytfhmdphcgcmaeaa
