/-
  slices.AppendSeq and slices.Collect, of behind's iterator.
-/
import Derived.Test.YtlcnpfiiijehmaaFromP
set_option linter.unusedVariables false
set_option linter.unusedSimpArgs false
namespace Go.Proofs.Ytlcnpfiiijehmaa
open Go.RowKit
attribute [local go_sem] Oper.semAt_some

def caI (bo n0 : Nat) (xs : List Ent) (w : World) (k : Nat) (W : World) : Prop :=
  ∃ A c, Box W bo 22 (.slice A k c) ∧ OwnsE n0 (.slice A k c) k (xs.take k) W ∧ Below bo w W ∧ n0 ≤ W.heap.size ∧ k ≤ xs.length
theorem caI_mild {bo n0 X : Nat} {xs : List Ent} {w : World} {k : Nat} {A B : World} (hn : bo ≤ w.heap.size) (hX : X < n0) (h1 : bo ≠ X) (h : caI bo n0 xs w k A) (hm : Mild bo X A B) : caI bo n0 xs w k B := by
  obtain ⟨A1, c, b1, ho, hb, hs, hkx⟩ := h
  exact ⟨A1, c, hm.box b1 h1, ho.mild hm hX, hm.below hb hn, Nat.le_trans hs hm.size, hkx⟩
def RetColl (xs : List Ent) (w : World) (e : Ending) (w' : World) : Prop := ∃ A n c, e = .returned (.slice A n c) ∧ n = xs.length ∧ OwnsE w.heap.size (.slice A n c) n xs w' ∧ Below w.heap.size w w'
set_option maxRecDepth 16384 in
set_option maxHeartbeats 8000000 in
theorem appendseq_any (B1 B2 : Nat) (i : Int) (l : List Ent) (A : Option Addr) (n c : Nat) (w0 w : World) (hw0 : Below w0.heap.size w0 w) (hn : l.length = n) (hn2 : n * 48 ≤ 140737488351232) (h0 : SeenE w0 A l) (hs : SmallE l)
    (hb1 : w.cell? ⟨B1, 0, none⟩ = some (.slice A n c)) (hb2 : w.cell? ⟨B2, 0, none⟩ = some (.int .i64 i)) :
    Calls Try.prog 52 #[.slice none 0 0, .func (.func 51) #[] #[.pointer (some ⟨B1, 0, none⟩), .pointer (some ⟨B2, 0, none⟩)]] w (RetColl (fromA i l) w) := by
  obtain ⟨W, hW⟩ : ∃ W, w.alloc (.cells #[.slice none 0 0] 22) = W := ⟨_, rfl⟩
  have hz : W.heap.size = w.heap.size + 1 := by rw [← hW]; simp
  have hb : Below w.heap.size w W := by rw [← hW]; exact (Below.refl _ _).alloc (Nat.le_refl _) _
  have hx : Box W w.heap.size 22 (.slice none 0 0) := by rw [← hW]; exact Box.new _ _ _
  have l1 := World.block_lt_of_cell? _ _ hb1
  have l2 := World.block_lt_of_cell? _ _ hb2
  have c1 := (hb.cell l1).trans hb1
  have c2 := (hb.cell l2).trans hb2
  obtain ⟨bo, hbo⟩ : ∃ bo, w.heap.size = bo := ⟨_, rfl⟩
  rw [hbo] at hz hx hb l1 l2
  simp only at l1 l2
  have hxl : (fromA i l).length * 48 ≤ 140737488351232 := by
    have h9 := List.length_filter_le (fun x : Ent => decide (i ≤ x.index)) l
    unfold fromA
    omega
  have HSQ := Lib.hid (behind_seq (fun b => b < bo) (bo + 1) B1 B2 A n c i l w0 W (below_step hw0 hw0.size (by rw [hbo]; exact hb)) hn hn2 h0 hs c1 c2 (fun b h => by have := hw0.size; omega) l2 (fun b h => by omega) (by omega))
  have HCO : Hid (caI bo (bo + 1) (fromA i l) w 0 W) := Lib.hid ⟨none, 0, hx, OwnsE.nil _ _, hb, by omega, Nat.zero_le _⟩
  have HW := Lib.hid hW
  have HBO := Lib.hid hbo
  have HZ := Lib.hid hz
  have HBO2 : Hid (bo ≤ W.heap.size) := Lib.hid (by omega)
  clear hW hb hx c1 c2 hbo hz hb1 hb2 h0 hs hw0
  refine enter_marks Try.func52 rfl ?_
  simp only [Try.ntmps52, List.size_toArray, List.length_cons, List.length_nil, Nat.reduceAdd, Nat.reduceSub, Array.replicate_succ, Array.replicate_zero, List.push_toArray, List.append_toArray, List.nil_append, List.cons_append]
  go_upto_region 1 with fail
  rw [HW.out]
  try rw [HBO.out]
  go_wp2_with fail
  refine (wpIn_wide (n := 0)).1 ?_
  refine wp_rangeE ?F (w0 := W) (n := bo) (X := B1) rfl (fun args w => by kernel_rfl) HSQ.out ?hKb (Below.refl _ _) ?hps (by omega) HBO2.out (fun j W => caI bo (bo + 1) (fromA i l) w j W) ?hI ?h0 ?hassign ?hbody ?hdone
  case hKb => exact fun b h => by have := HBO2.out; omega
  case hps =>
    rintro k x args W ⟨_, _, rfl, _⟩
    rfl
  case hI => exact fun j X Y hm h => caI_mild (X := B1) (by rw [HBO.out]; exact Nat.le_refl _) (by omega) (by omega) h hm
  case h0 => exact HCO.out
  case hassign =>
    rintro ll j x A3 c3 W' K hx hown hi hK
    have hsz : bo + 1 ≤ W'.heap.size := by
      obtain ⟨_, _, _, _, _, h, _⟩ := hi
      exact h
    rw [Ent.val_eq]
    unfold Ent.cells
    gi_wp2
    have hbe : Below W'.heap.size W' (W'.alloc (Obj.cells #[.int .i64 x.term, .int .i64 x.index, .int .i64 x.kind, .slice A3 x.data.length c3] 54)) := (Below.refl _ _).alloc (Nat.le_refl _) _
    have hent : EntAt (W'.alloc (Obj.cells #[.int .i64 x.term, .int .i64 x.index, .int .i64 x.kind, .slice A3 x.data.length c3] 54)) W'.heap.size x (.slice A3 x.data.length c3) := heap_alloc_new W' _
    have hk1 := KeepsOthers.alloc W' (Obj.cells #[.int .i64 x.term, .int .i64 x.index, .int .i64 x.kind, .slice A3 x.data.length c3] 54)
    have hk2 : KeptOn (fun b => b < bo) W' (W'.alloc (Obj.cells #[.int .i64 x.term, .int .i64 x.index, .int .i64 x.kind, .slice A3 x.data.length c3] 54)) := KeptOn.alloc _ (fun b h => by omega)
    have hi2 := caI_mild (X := B1) (by rw [HBO.out]; exact Nat.le_refl _) (by omega) (by omega) hi (Mild.of_grown (n := bo) (X := B1) (below_grown hbe) (fun r e => by cases e))
    have ho2 := own_keep hown hbe
    obtain ⟨We, hWe⟩ : ∃ We, W'.alloc (Obj.cells #[.int .i64 x.term, .int .i64 x.index, .int .i64 x.kind, .slice A3 x.data.length c3] 54) = We := ⟨_, rfl⟩
    rw [hWe] at hent hk1 hk2 hi2 ho2
    rw [hWe]
    obtain ⟨bx, hbx⟩ : ∃ bx, W'.heap.size = bx := ⟨_, rfl⟩
    rw [hbx] at hent hsz
    rw [hbx]
    exact hK _ _ (hk1.from _) hk2 hi2 hent ho2 hsz
  case hbody =>
    rintro ll j x A3 c3 bx W5 hx ⟨A1, c1, bx1, ho, hb, hs, hkx⟩ hent hown3 hbx
    have hjl := (List.getElem?_eq_some_iff.1 hx).1
    have m1 := bx1.cell
    have f1 := bx1.frozen
    unfold EntAt at hent
    have e0 := cell_of_row W5 bx 0 _ _ _ hent
    have e1 := cell_of_row W5 bx 1 _ _ _ hent
    have e2 := cell_of_row W5 bx 2 _ _ _ hent
    have e3 := cell_of_row W5 bx 3 _ _ _ hent
    simp at e0 e1 e2 e3
    obtain ⟨q, hq⟩ : ∃ q, x.data.length = q := ⟨_, rfl⟩
    rw [hq] at e3 hown3
    rw [hq]
    have HQ := Lib.hid hq
    have HX := Lib.hid hx
    clear hq hx
    obtain ⟨cells, o1, o2⟩ := ho
    have O1 := Lib.hid o1
    have O2 := Lib.hid o2
    have BX1 := Lib.hid bx1
    clear o1 o2 bx1
    gi_wp2_with (gi_at_builtin; go_loud (refine wpListIn_append_sees rfl (.tmp 8) (.tmp 10) 22 rfl (bo + 1) 54 (.agg zeros4) 4 48 Try.underlying22 infoE rfl (by decide) (.slice A1 j c1) j cells rfl (own_alloc' O1.out _) (some ⟨W5.heap.size, 0, none⟩) 1 1 (x.cells (.slice A3 q c3)) rfl rfl (sees_new W5 #[.int .i64 x.term, .int .i64 x.index, .int .i64 x.kind, .slice A3 q c3] 54) (cells_ones x A3 q c3) (by simp only [maxLen]; omega) (by omega) (by first | (simp; done) | (simp; omega)) ?_); intro A2 c2' w6 hown2 hg2 hat2; have bz1 := (BX1.out.alloc (.cells #[.int .i64 x.term, .int .i64 x.index, .int .i64 x.kind, .slice A3 q c3] 54)).grown hg2 (fun r e => by have := (own_block_ge O1.out r e).1; omega); have c3' := bz1.cell; have f3' := bz1.frozen)
    have hbe : Below W5.heap.size W5 (W5.alloc (Obj.cells #[.int .i64 x.term, .int .i64 x.index, .int .i64 x.kind, .slice A3 q c3] 54)) := (Below.refl _ _).alloc (Nat.le_refl _) _
    have hown1 := own_alloc' O1.out (.cells #[.int .i64 x.term, .int .i64 x.index, .int .i64 x.kind, .slice A3 q c3] 54)
    refine ⟨?_, ?_, ?_⟩
    · exact (((KeepsOthers.alloc W5 _).trans (KeepsOthers.of_grownBy hg2 (ownE_cells hown1))).trans (KeepsOthers.setCell _ _ _)).from _
    · refine ((KeptOn.alloc _ ?_).trans (KeptOn.grown hg2 ?_)).trans (KeptOn.set _ ?_)
      · exact fun b h => by omega
      · exact fun b h => ⟨by simp; omega, fun e => by have := (own_block_ge O1.out b e.symm).1; omega⟩
      · intro h
        simp at h
    · have htk : (fromA i l).take (j + 1) = (fromA i l).take j ++ [x] := by rw [List.take_succ_eq_append_getElem hjl, (List.getElem?_eq_some_iff.1 HX.out).2]
      refine ⟨A2, c2', bz1.set _, ?_, ?_, ?_, hjl⟩
      · rw [htk]
        refine OwnsE.far (OwnsE.snoc hown1 (O2.out.imp fun k y cs _ hl => hl.below hbe) ⟨A3, c3, by rw [HQ.out], ?_⟩ hown2 hg2) _ (by show bo < _; omega) _
        rw [HQ.out]
        exact own_keep hown3 hbe
      · exact (below_grown_own (hb.alloc (by omega) _) (by simp; omega) hown1 (by omega) hg2).setCell (by show bo ≤ bo; exact Nat.le_refl _) _
      · have := hg2.size
        simp [World.setCell] at this ⊢
        omega
  case hdone =>
    rintro D W5 hD ⟨A1, c1, bx1, ho, hb, hs, hkx⟩ hK
    have hD2 : bo ≤ D := Nat.le_trans HBO2.out hD
    have m1 := Box.cell bx1
    have hm5 : Mild bo B1 W5 (W5.putObj D (.deferred none)) := Mild.of_grown (grownBy_putObj' W5 D _) (fun r e => by cases e; exact ⟨hD2, _, hK, rfl⟩)
    obtain ⟨k, hk⟩ : ∃ k, (fromA i l).length = k := ⟨_, rfl⟩
    rw [hk] at m1 ho
    rw [show (fromA i l).take k = fromA i l by rw [← hk, List.take_length]] at ho
    have HO := Lib.hid (ho.mild hm5 (by omega))
    have HBW := Lib.hid (hm5.below hb (by rw [HBO.out]; exact Nat.le_refl _))
    have HKD := Lib.hid hK
    have HKK := Lib.hid hk
    clear hm5 ho hb hK bx1 hk hkx hxl
    go_wp2
    refine ret_end1 rfl HKD.out rfl ?_
    exact ⟨A1, k, c1, rfl, HKK.out.symm, HO.out.lower (by rw [HBO.out]; omega), by rw [HBO.out]; exact HBW.out⟩
set_option maxHeartbeats 1000000 in
theorem collect_any (B1 B2 : Nat) (i : Int) (l : List Ent) (A : Option Addr) (n c : Nat) (w0 w : World) (hw0 : Below w0.heap.size w0 w) (hn : l.length = n) (hn2 : n * 48 ≤ 140737488351232) (h0 : SeenE w0 A l) (hs : SmallE l)
    (hb1 : w.cell? ⟨B1, 0, none⟩ = some (.slice A n c)) (hb2 : w.cell? ⟨B2, 0, none⟩ = some (.int .i64 i)) :
    Calls Try.prog 44 #[.func (.func 51) #[] #[.pointer (some ⟨B1, 0, none⟩), .pointer (some ⟨B2, 0, none⟩)]] w (RetColl (fromA i l) w) := by
  have HAP := Lib.hid (appendseq_any B1 B2 i l A n c w0 w hw0 hn hn2 h0 hs hb1 hb2)
  clear hw0 hn h0 hs hb1 hb2
  go_enter Try.func44, Try.ntmps44
  go_wp2_with (first
    | (go_at_call 52; refine HAP.out.mono ?_; rintro e w2 ⟨A2, n2, c2, rfl, hn2', ho2, hb2⟩; have HN2 := Lib.hid hn2'; have HO2 := Lib.hid ho2; clear hn2' ho2)
    | fail)
  go_ret
  exact ⟨A2, n2, c2, rfl, HN2.out, HO2.out, hb2⟩
end Go.Proofs.Ytlcnpfiiijehmaa
