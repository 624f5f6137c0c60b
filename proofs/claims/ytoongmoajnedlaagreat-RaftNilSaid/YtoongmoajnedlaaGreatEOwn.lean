/-
  Entries in memory of their own (law03.Own, law12.Own, View).
-/
import Derived.Test.YtoongmoajnedlaaGreatEnt2
set_option linter.unusedVariables false
set_option linter.unusedSimpArgs false
namespace Go.Proofs.YtoongmoajnedlaaGreat
open Go.RowKit

theorem infoE : (Tryz.prog.info? 110).map (fun i => (i.zero, i.size, i.bytes)) = some (some (.agg zeros4), 4, 48) := by kernel_rfl
/-- An entry whose data lie in a row of their own. -/
def EntO (base : Nat) (W : World) (x : Ent) (cs : List Value) : Prop := ∃ A c, cs = x.cells (.slice A x.data.length c) ∧ W.ownsRow base 5 1 (.slice A x.data.length c) x.data.length (u8s x.data)
theorem EntO.see {base : Nat} {W : World} {x : Ent} {cs : List Value} (h : EntO base W x cs) : EntR W x cs := by
  obtain ⟨A, c, e, ho⟩ := h
  obtain ⟨_, h1, _, h2⟩ := sees_own' ho
  exact ⟨A, c, e, h1, h2⟩
/-- A row of entries of their own. -/
def OwnsE (base : Nat) (v : Value) (n : Nat) (es : List Ent) (W : World) : Prop := ∃ cells, W.ownsRow base 110 4 v n cells ∧ Recs (EntO base) 4 W es cells
theorem OwnsE.see {base n c : Nat} {A : Option Addr} {es : List Ent} {W : World} (h : OwnsE base (.slice A n c) n es W) : SeenE W A es ∧ es.length = n ∧ n ≤ c := by
  obtain ⟨cells, h1, h2⟩ := h
  obtain ⟨_, h3, _, h4⟩ := sees_own' h1
  refine ⟨⟨cells, h4, h2.imp fun j x cs _ hl => hl.see⟩, ?_, h3⟩
  have := h2.length
  have h5 := h1.1
  omega
theorem OwnsE.nil (base : Nat) (W : World) : OwnsE base (.slice none 0 0) 0 [] W := ⟨[], ⟨rfl, .inl ⟨rfl, rfl⟩⟩, Recs.nil⟩
theorem EntO.below {base : Nat} {W W' : World} {x : Ent} {cs : List Value} (h : EntO base W x cs) (hb : Below W.heap.size W W') : EntO base W' x cs := by
  obtain ⟨A, c, e, ho⟩ := h
  exact ⟨A, c, e, own_keep ho hb⟩
theorem OwnsE.below {base n : Nat} {v : Value} {es : List Ent} {W W' : World} (h : OwnsE base v n es W) (hb : Below W.heap.size W W') : OwnsE base v n es W' := by
  obtain ⟨cells, h1, h2⟩ := h
  exact ⟨cells, own_keep h1 hb, h2.imp fun j x cs _ hl => hl.below hb⟩
theorem OwnsE.lower {base base' n : Nat} {v : Value} {es : List Ent} {W : World} (h : OwnsE base v n es W) (hle : base' ≤ base) : OwnsE base' v n es W := by
  obtain ⟨cells, h1, h2⟩ := h
  exact ⟨cells, own_lower h1 hle, h2.imp fun j x cs _ hl => by
    obtain ⟨A, c, e, ho⟩ := hl
    exact ⟨A, c, e, own_lower ho hle⟩⟩
/-- One more is appended. -/
theorem OwnsE.snoc {base n c c2 : Nat} {A A2 : Option Addr} {es : List Ent} {cells : List Value} {x : Ent} {d : Value} {W W2 : World} (h1 : W.ownsRow base 110 4 (.slice A n c) n cells) (h2 : Recs (EntO base) 4 W es cells) (hx : EntO base W x (x.cells d))
    (h3 : W2.ownsRow base 110 4 (.slice A2 (n + 1) c2) (n + 1) (cells ++ x.cells d)) (hg : W.grownBy W2 (Value.slice A n c).ownBlock) : OwnsE base (.slice A2 (n + 1) c2) (n + 1) (es ++ [x]) W2 := by
  have hk : ∀ (y : Ent) (cs : List Value), EntO base W y cs → EntO base W2 y cs := fun y cs hl => by
    obtain ⟨A', c', e, ho⟩ := hl
    exact ⟨A', c', e, own_apart ho h1 (by decide) hg⟩
  exact ⟨_, h3, (h2.imp fun j y cs _ hl => hk y cs hl).snoc rfl (hk x _ hx)⟩
theorem cells_ones (x : Ent) (A : Option Addr) (n c : Nat) : ∀ u ∈ x.cells (.slice A n c), u.oneCell' = true := by
  intro u hu
  simp [Ent.cells] at hu
  rcases hu with rfl | rfl | rfl | rfl <;> rfl
def RetEnt (x : Ent) (w : World) (e : Ending) (w' : World) : Prop := ∃ A c, e = .returned (x.val (.slice A x.data.length c)) ∧ w'.ownsRow w.heap.size 5 1 (.slice A x.data.length c) x.data.length (u8s x.data) ∧ Below w.heap.size w w'
theorem frozen_of_cells {w : World} {B : Nat} {cs : Array Value} {t : TypeId} (h : w.heap[B]? = some (.cells cs t (0, 0))) (j : Nat) : w.frozen? ⟨B, j, none⟩ = false := by
  simp [World.frozen?, h]
/-- The parameter's box, and the result's. -/
theorem two_boxes (x : Ent) (d : Value) (w : World) : ∃ w2, (w.alloc (.cells #[.int .i64 x.term, .int .i64 x.index, .int .i64 x.kind, d] 110)).alloc (.cells #[.int .i64 0, .int .i64 0, .int .i64 0, .slice none 0 0] 110) = w2 ∧ Below w.heap.size w w2 ∧ w2.heap.size = w.heap.size + 2 ∧
    w2.heap[w.heap.size]? = some (.cells #[.int .i64 x.term, .int .i64 x.index, .int .i64 x.kind, d] 110 (0, 0)) ∧ w2.heap[w.heap.size + 1]? = some (.cells #[.int .i64 0, .int .i64 0, .int .i64 0, .slice none 0 0] 110 (0, 0)) := by
  refine ⟨_, rfl, ((Below.refl _ w).alloc (Nat.le_refl _) _).alloc (by simp) _, by simp, ?_, ?_⟩
  · have h1 : (w.alloc (.cells #[.int .i64 x.term, .int .i64 x.index, .int .i64 x.kind, d] 110)).heap[w.heap.size]? = some (.cells #[.int .i64 x.term, .int .i64 x.index, .int .i64 x.kind, d] 110 (0, 0)) := heap_alloc_new w _
    exact (Below.heap_alloc _ _ _ (by simp)).trans h1
  · have := heap_alloc_new (w.alloc (.cells #[.int .i64 x.term, .int .i64 x.index, .int .i64 x.kind, d] 110)) (.cells #[.int .i64 0, .int .i64 0, .int .i64 0, .slice none 0 0] 110)
    simpa using this
set_option maxHeartbeats 2000000 in
theorem own03_any (x : Ent) (A : Option Addr) (n c : Nat) (w : World) (hn : x.data.length = n) (hl : n ≤ 140737488351232) (h : Sees w A (u8s x.data)) :
    Calls Tryz.prog 52 #[x.val (.slice A n c)] w (RetEnt x w) := by
  obtain ⟨w2, hw2, hb2, hz, x1, x2⟩ := two_boxes x (.slice A n c) w
  obtain ⟨t, i, k, data⟩ := x
  dsimp only at hn h hw2 x1 x2
  unfold Ent.val RetEnt Ent.val
  dsimp only
  rw [hn]
  obtain ⟨gb, hgb⟩ : ∃ gb, w.heap.size = gb := ⟨_, rfl⟩
  rw [hgb] at x1 x2 hz
  have HS := Lib.hid (h.below hb2)
  have HN : Hid ((u8s data).length = n * 1) := Lib.hid (by rw [u8s_length, hn, Nat.mul_one])
  have HZ := Lib.hid hz
  have HW2 := Lib.hid hw2
  have HB2 := Lib.hid hb2
  have HGB := Lib.hid hgb
  have q0 := cell_of_row w2 gb 3 _ _ _ x1
  simp at q0
  have HX1 := Lib.hid x1
  have HX2 := Lib.hid x2
  clear h hw2 hb2 hn hz x1 x2 hgb
  go_enter Tryz.func52, Tryz.ntmps52
  go_upto_region 1 with fail
  rw [HW2.out]
  try rw [HGB.out]
  have y3 : (w2.alloc (.cells #[] 5)).cell? ⟨gb, 3, none⟩ = some (.slice A n c) := (((Below.refl w2.heap.size w2).alloc (Nat.le_refl _) (.cells #[] 5)).cell (World.block_lt_of_cell? _ _ q0)).trans q0
  go_upto_region 2 with (first
    | (at_builtin; refine wpList_append_sees rfl (.tmp 3) (.tmp 5) 29 rfl w2.heap.size 5 (.int .u8 0) 1 1 Tryz.underlying29 infoU8 rfl (by decide) (.slice (some ⟨w2.heap.size, 0, none⟩) 0 0) 0 [] rfl (own_made0 w2 _ 1) A n c (u8s data) rfl HN.out (HS.out.below ((Below.refl _ _).alloc (Nat.le_refl _) _)) (u8s_one _) (by simp only [maxLen]; omega) (by omega) (by simp) ?_; intro A3 c3 w3 hown3 hg3 hat3; rw [Nat.zero_add]; rw [Nat.zero_add, List.nil_append] at hown3; have hb3 : Below w2.heap.size w2 w3 := below_grown_own ((Below.refl _ _).alloc (Nat.le_refl _) _) (by simp) (own_made0 w2 _ 1) (Nat.le_refl _) hg3; have y1 := (hb3.block gb (by have := HZ.out; omega)).trans HX1.out; have y2 := (hb3.block (gb + 1) (by have := HZ.out; omega)).trans HX2.out; have f10 := frozen_of_cells y1 3; have c13 := cell_of_row w3 gb 3 _ _ _ y1; have HY1 := Lib.hid y1; have HY2 := Lib.hid y2; have HB3 := Lib.hid hb3; have HOWN3 := Lib.hid hown3; simp at c13; clear hown3 hg3 hat3 hb3 y1 y2)
    | fail)
  clear q0 y3 c13 f10
  obtain ⟨w4, hw4⟩ : ∃ w4, w3.setCell ⟨gb, 3, none⟩ (.slice A3 n c3) = w4 := ⟨_, rfl⟩
  have z1 : w4.heap[gb]? = some (.cells #[.int .i64 t, .int .i64 i, .int .i64 k, .slice A3 n c3] 110 (0, 0)) := by
    rw [← hw4]
    simp [World.setCell, Array.getElem?_modify, HY1.out]
  have z2 : w4.heap[gb + 1]? = some (.cells #[.int .i64 0, .int .i64 0, .int .i64 0, .slice none 0 0] 110 (0, 0)) := by
    rw [← hw4]
    simp [World.setCell, Array.getElem?_modify, HY2.out]
  have HW4 := Lib.hid hw4
  rw [hw4]
  have a0 := cell_of_row w4 gb 0 _ _ _ z1
  have a1 := cell_of_row w4 gb 1 _ _ _ z1
  have a2 := cell_of_row w4 gb 2 _ _ _ z1
  have a3 := cell_of_row w4 gb 3 _ _ _ z1
  have b0 := cell_of_row w4 (gb + 1) 0 _ _ _ z2
  have b1 := cell_of_row w4 (gb + 1) 1 _ _ _ z2
  have b2 := cell_of_row w4 (gb + 1) 2 _ _ _ z2
  have b3 := cell_of_row w4 (gb + 1) 3 _ _ _ z2
  have fb := frozen_of_cells z2
  simp at a0 a1 a2 a3 b0 b1 b2 b3
  have HZ2 := Lib.hid z2
  clear hw4 z1 z2
  go_wp2_with fail
  have hrow : ((((w4.setCell ⟨gb + 1, 0, none⟩ (.int .i64 t)).setCell ⟨gb + 1, 1, none⟩ (.int .i64 i)).setCell ⟨gb + 1, 2, none⟩ (.int .i64 k)).setCell ⟨gb + 1, 3, none⟩ (.slice A3 n c3)).heap[gb + 1]? = some (.cells #[.int .i64 t, .int .i64 i, .int .i64 k, .slice A3 n c3] 110 (0, 0)) := by
    simp [World.setCell, Array.getElem?_modify, HZ2.out]
  refine bodyPost_ret (v := .agg #[.int .i64 t, .int .i64 i, .int .i64 k, .slice A3 n c3]) (results_cell_row rfl _ _ _ _ _ _ _ rfl hrow Tryz.underlying110 rfl (by kernel_rfl)) rfl ?_
  have hB3 := below_step HB2.out HB2.out.size HB3.out
  have hgw := HGB.out
  have hz2 := HZ.out
  refine ⟨A3, c3, rfl, ?_, ?_⟩
  · rw [← HW4.out]
    exact own_lower (ownsRow_setCell_below (ownsRow_setCell_below (ownsRow_setCell_below (ownsRow_setCell_below (ownsRow_setCell_below HOWN3.out (by show gb < _; omega) _) (by show gb + 1 < _; omega) _) (by show gb + 1 < _; omega) _) (by show gb + 1 < _; omega) _) (by show gb + 1 < _; omega) _) (by omega)
  · rw [← HW4.out]
    exact ((((hB3.setCell (by show _ ≤ gb; omega) _).setCell (by show _ ≤ gb + 1; omega) _).setCell (by show _ ≤ gb + 1; omega) _).setCell (by show _ ≤ gb + 1; omega) _).setCell (by show _ ≤ gb + 1; omega) _
end Go.Proofs.YtoongmoajnedlaaGreat
