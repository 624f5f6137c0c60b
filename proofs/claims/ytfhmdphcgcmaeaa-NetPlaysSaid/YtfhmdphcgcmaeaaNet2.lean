/-
  Package net: a net in memory; what reads it.
-/
import Derived.Test.YtfhmdphcgcmaeaaNet1
set_option linter.unusedVariables false
set_option linter.unusedSimpArgs false
namespace Go.Proofs.Ytfhmdphcgcmaeaa
open Go.RowKit

/-- Nothing but the blocks of S has turned, and there are new ones. -/
structure Outside (S : Nat → Prop) (W W' : World) : Prop where
  os : W'.os = W.os
  tape : W'.tape = W.tape
  output : W'.output = W.output
  size : W.heap.size ≤ W'.heap.size
  block : ∀ b, b < W.heap.size → ¬ S b → W'.heap[b]? = W.heap[b]?
theorem Outside.refl (S : Nat → Prop) (W : World) : Outside S W W := ⟨rfl, rfl, rfl, Nat.le_refl _, fun _ _ _ => rfl⟩
theorem Outside.of_below {S : Nat → Prop} {W W' : World} (h : Below W.heap.size W W') : Outside S W W' := ⟨h.os, h.tape, h.output, h.size, fun b hb _ => h.block b hb⟩
theorem Outside.below {S : Nat → Prop} {W W' : World} {B : Nat} (h : Outside S W W') (hS : ∀ b, S b → B ≤ b) (hB : B ≤ W.heap.size) : Below B W W' :=
  ⟨h.os, h.tape, h.output, h.size, fun b hb => h.block b (by omega) (fun hs => by have := hS b hs; omega)⟩
theorem Outside.trans {S T : Nat → Prop} {W W1 W2 : World} (h : Outside S W W1) (k : Outside T W1 W2) (hT : ∀ b, b < W.heap.size → T b → S b) : Outside S W W2 :=
  ⟨k.os.trans h.os, k.tape.trans h.tape, k.output.trans h.output, Nat.le_trans h.size k.size, fun b hb hs => (k.block b (Nat.lt_of_lt_of_le hb h.size) (fun ht => hs (hT b hb ht))).trans (h.block b hb hs)⟩
/-- S, and what lies behind W's blocks. -/
def Plus (S : Nat → Prop) (W : World) (b : Nat) : Prop := S b ∨ W.heap.size ≤ b
theorem own_same {w w1 : World} {base n size : Nat} {e : TypeId} {v : Value} {xs : List Value} (h : w.ownsRow base e size v n xs) (hb : ∀ b, v.ownBlock = some b → w1.heap[b]? = w.heap[b]?) : w1.ownsRow base e size v n xs := by
  obtain ⟨h1, h2⟩ := h
  refine ⟨h1, ?_⟩
  rcases h2 with h2 | ⟨g, cap, cur, hv, hg, hh, r⟩
  · exact .inl h2
  · exact .inr ⟨g, cap, cur, hv, hg, (hb g (by rw [hv]; rfl)).trans hh, r⟩
/-- A letter in memory, its bytes in a row of its own among the blocks of S. -/
def ltOwn (S : Nat → Prop) (W : World) (l : Lt) (cs : List Value) : Prop :=
  ∃ A c, cs = [.int .i64 l.1, .int .i64 l.2.1, .slice A l.2.2.length c] ∧ W.ownsRow 0 5 1 (.slice A l.2.2.length c) l.2.2.length (u8s l.2.2) ∧ ∀ b, (Value.slice A l.2.2.length c).ownBlock = some b → S b
def netObj (most : Int) (A : Option Addr) (n c : Nat) (wl : List Bool) : Obj := .cells (#[.int .i64 most, .slice A n c] ++ (wl.map Value.bool).toArray) 61 (0, 0)
/-- A net in memory, in the blocks of S. -/
def NetAt (S : Nat → Prop) (g : Nat) (most : Int) (ls : List Lt) (wl : List Bool) (W : World) : Prop :=
  ∃ A c cells, W.heap[g]? = some (netObj most A ls.length c wl) ∧ wl.length = 16 ∧ S g ∧ W.ownsRow 0 33 3 (.slice A ls.length c) ls.length cells ∧ (∀ b, (Value.slice A ls.length c).ownBlock = some b → S b) ∧ Recs (ltOwn S) 3 W ls cells
theorem NetAt.keep {S : Nat → Prop} {g : Nat} {most : Int} {ls : List Lt} {wl : List Bool} {W W' : World} (h : NetAt S g most ls wl W) (hk : ∀ b, b < W.heap.size → S b → W'.heap[b]? = W.heap[b]?) : NetAt S g most ls wl W' := by
  obtain ⟨A, c, cells, h1, h2, h3, h4, h5, h6⟩ := h
  have hlt : ∀ {b s n : Nat} {e : TypeId} {v : Value} {xs : List Value}, W.ownsRow b e s v n xs → ∀ k, v.ownBlock = some k → k < W.heap.size := fun ho k hk => (own_block_ge ho k hk).2
  refine ⟨A, c, cells, (hk g (Array.getElem?_eq_some_iff.1 h1).1 h3).trans h1, h2, h3, own_same h4 (fun b hb => hk b (hlt h4 b hb) (h5 b hb)), h5, h6.imp fun j l cs _ hl => ?_⟩
  obtain ⟨A1, c1, e, ho, hs⟩ := hl
  exact ⟨A1, c1, e, own_same ho (fun b hb => hk b (hlt ho b hb) (hs b hb)), hs⟩
theorem NetAt.below {S : Nat → Prop} {g : Nat} {most : Int} {ls : List Lt} {wl : List Bool} {W W' : World} (h : NetAt S g most ls wl W) (hb : Below W.heap.size W W') : NetAt S g most ls wl W' := h.keep fun b hlt _ => hb.block b hlt
theorem NetAt.mono {S T : Nat → Prop} {g : Nat} {most : Int} {ls : List Lt} {wl : List Bool} {W : World} (h : NetAt S g most ls wl W) (hT : ∀ b, S b → T b) : NetAt T g most ls wl W := by
  obtain ⟨A, c, cells, h1, h2, h3, h4, h5, h6⟩ := h
  refine ⟨A, c, cells, h1, h2, hT g h3, h4, fun b hb => hT b (h5 b hb), h6.imp fun j l cs _ hl => ?_⟩
  obtain ⟨A1, c1, e, ho, hs⟩ := hl
  exact ⟨A1, c1, e, ho, fun b hb => hT b (hs b hb)⟩
/-- The cells of a net. -/
theorem net_cells {W : World} {g : Nat} {most : Int} {A : Option Addr} {n c : Nat} {wl : List Bool} (h : W.heap[g]? = some (netObj most A n c wl)) :
    W.cell? ⟨g, 0, none⟩ = some (.int .i64 most) ∧ W.cell? ⟨g, 1, none⟩ = some (.slice A n c) ∧ (∀ i b, wl[i]? = some b → W.cell? ⟨g, 2 + i, none⟩ = some (.bool b)) ∧ ∀ j, W.frozen? ⟨g, j, none⟩ = false := by
  unfold netObj at h
  refine ⟨by rw [cell_of_row W g 0 _ _ _ h]; simp, by rw [cell_of_row W g 1 _ _ _ h]; simp, fun i b hi => ?_, fun j => frozen_of_cells h j⟩
  rw [cell_of_row W g (2 + i) _ _ _ h, Array.getElem?_append_right (by simp)]
  simp [hi]
theorem len_any {S : Nat → Prop} {g : Nat} {most : Int} {ls : List Lt} {wl : List Bool} (w : World) (h : NetAt S g most ls wl w) (hm : most ≠ 0) :
    Calls Try.prog 15 #[.pointer (some ⟨g, 0, none⟩)] w fun e w' => e = .returned (.int .i64 (ls.length : Int)) ∧ w = w' := by
  obtain ⟨A, c, cells, h1, h2, h3, h4, h5, h6⟩ := h
  obtain ⟨k0, k1, _, _⟩ := net_cells h1
  have b1 : (most == 0) = false := by simp [hm]
  clear h1 h4 h5 h6
  go_enter Try.func15, Try.ntmps15
  go_wp2_with (first
    | (go_at_call 25; (refine (none_any g most _ k0).mono ?_); rintro e w' ⟨rfl, rfl⟩)
    | fail)
  go_ret
  exact ⟨rfl, rfl⟩
/-- What 'at' answers. -/
def atE (k : Int) (n : Nat) : Int := if k < 0 ∨ (n : Int) ≤ k then 3 else 0
theorem at_any {S : Nat → Prop} {g : Nat} {most : Int} {ls : List Lt} {wl : List Bool} (k : Int) (w : World) (h : NetAt S g most ls wl w) (hm : most ≠ 0) :
    Calls Try.prog 28 #[.pointer (some ⟨g, 0, none⟩), .int .i64 k] w fun e w' => e = .returned (.int .i64 (atE k ls.length)) ∧ w = w' := by
  obtain ⟨A, c, cells, h1, h2, h3, h4, h5, h6⟩ := h
  obtain ⟨k0, k1, _, _⟩ := net_cells h1
  have b1 : (most == 0) = false := by simp [hm]
  clear h1 h4 h5 h6
  by_cases hk : k < 0
  · have hz : atE k ls.length = 3 := if_pos (.inl hk)
    rw [hz]
    go_enter Try.func28, Try.ntmps28
    go_wp2_with (first
      | (go_at_call 25; (refine (none_any g most _ k0).mono ?_); rintro e w' ⟨rfl, rfl⟩)
      | fail)
    go_ret
    exact ⟨rfl, rfl⟩
  by_cases hk2 : (ls.length : Int) ≤ k
  · have hz : atE k ls.length = 3 := if_pos (.inr hk2)
    rw [hz]
    go_enter Try.func28, Try.ntmps28
    go_wp2_with (first
      | (go_at_call 25; (refine (none_any g most _ k0).mono ?_); rintro e w' ⟨rfl, rfl⟩)
      | fail)
    go_ret
    exact ⟨rfl, rfl⟩
  · have hz : atE k ls.length = 0 := if_neg (by omega)
    rw [hz]
    go_enter Try.func28, Try.ntmps28
    go_wp2_with (first
      | (go_at_call 25; (refine (none_any g most _ k0).mono ?_); rintro e w' ⟨rfl, rfl⟩)
      | fail)
    go_ret
    exact ⟨rfl, rfl⟩
end Go.Proofs.Ytfhmdphcgcmaeaa
