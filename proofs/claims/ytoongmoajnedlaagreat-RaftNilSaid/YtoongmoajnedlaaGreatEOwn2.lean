/-
  Rows of entries in memory of their own: law12.Own, View; one entry (entry).
-/
import Derived.Test.YtoongmoajnedlaaGreatEOwn
import Derived.Deep.RegionHeld3
set_option linter.unusedVariables false
set_option linter.unusedSimpArgs false
namespace Go.Proofs.YtoongmoajnedlaaGreat
open Go.RowKit

def RetEs (es : List Ent) (w : World) (e : Ending) (w' : World) : Prop := ∃ A n c, e = .returned (.slice A n c) ∧ n = es.length ∧ OwnsE w.heap.size (.slice A n c) n es w' ∧ Below w.heap.size w w'
set_option maxHeartbeats 4000000 in
theorem own12_any (A : Option Addr) (es : List Ent) (m c : Nat) (w : World) (hm : es.length = m) (hm2 : m * 48 ≤ 140737488351232) (h : SeenE w A es) (hs : SmallE es) :
    Calls Tryz.prog 89 #[.slice A m c] w (RetEs es w) := by
  have H := Lib.hid h
  have HM := Lib.hid hm
  have HS := Lib.hid hs
  clear h hm hs
  have HST : Hid (∃ (k q cp : Nat) (B : Option Addr), Value.int .i64 0 = .int .i64 (k : Int) ∧ Value.slice none 0 0 = .slice B q cp ∧ k ≤ m ∧ q = k ∧ OwnsE w.heap.size (.slice B q cp) q (es.take k) w ∧ Below w.heap.size w w) := Lib.hid ⟨0, 0, 0, none, rfl, rfl, Nat.zero_le _, rfl, OwnsE.nil _ _, Below.refl _ _⟩
  go_enter Tryz.func89, Tryz.ntmps89
  go_wp2_with fail
  go_loopw [3, 4] (fun s3 s4 wr => ∃ (k q cp : Nat) (B : Option Addr), s4 = .int .i64 (k : Int) ∧ s3 = .slice B q cp ∧ k ≤ m ∧ q = k ∧ OwnsE w.heap.size (.slice B q cp) q (es.take k) wr ∧ Below w.heap.size w wr) (fun _ s4 _ => m - (intOf s4).toNat)
  case atStart => exact HST.out
  case round =>
    obtain ⟨k, q, cp, B, rfl, rfl, hk, rfl, hown, hb⟩ := hrel
    have HB := Lib.hid hb
    by_cases hlt : q < m
    · have hki : (q : Int) < (m : Int) := by omega
      have hkl : q < es.length := by rw [HM.out]; exact hlt
      obtain ⟨x, hx⟩ : ∃ x, es[q] = x := ⟨_, rfl⟩
      have hget : es[q]? = some x := by rw [List.getElem?_eq_getElem hkl, hx]
      have HTK : Hid (es.take (q + 1) = es.take q ++ [x]) := Lib.hid (by rw [List.take_succ_eq_append_getElem hkl, hx])
      obtain ⟨ad, A1, c1, rfl, hcs, hc1, hsd⟩ := (H.out.below HB.out).at hget
      have hsm := HS.out x (by rw [← hx]; exact List.getElem_mem hkl)
      obtain ⟨p, hp⟩ : ∃ p, x.data.length = p := ⟨_, rfl⟩
      rw [hp] at hcs hc1 hsm
      have HP := Lib.hid hp
      have HOW := Lib.hid (own03_any x A1 p c1 wr hp hsm hsd)
      rw [Ent.val_eq] at HOW
      have HCS := Lib.hid hcs
      obtain ⟨cells, ho1, hr1⟩ := hown
      have HO1 := Lib.hid ho1
      have HR1 := Lib.hid hr1
      clear HST hb hcs hx hget hkl hp hsd ho1 hr1
      go_wp2_with (first
        | (refine wpList_load_far rfl 110 _ rfl (ad.add (q * 4)) rfl (x.cells (.slice A1 p c1)) _ HCS.out Tryz.underlying110 rfl (by kernel_rfl) ?_)
        | (go_at_call 52; refine HOW.out.mono ?_; rintro e w2 ⟨A2, c2, rfl, hown2, hb2⟩; rw [HP.out]; rw [HP.out] at hown2; have HOWN2 := Lib.hid hown2; have HB2 := Lib.hid hb2; unfold Ent.val; clear hown2 hb2)
        | (at_builtin; refine wpList_append_sees rfl (.tmp 11) (.tmp 17) 28 rfl w.heap.size 110 (.agg zeros4) 4 48 Tryz.underlying28 infoE rfl (by decide) (.slice B q cp) q cells rfl (own_alloc' (own_keep HO1.out HB2.out) _) (some ⟨w2.heap.size, 0, none⟩) 1 1 (x.cells (.slice A2 p c2)) rfl rfl (sees_new w2 #[.int .i64 x.term, .int .i64 x.index, .int .i64 x.kind, .slice A2 p c2] 110) (cells_ones x A2 p c2) (by simp only [maxLen]; omega) (by omega) (by have := HB.out.size; have := HB2.out.size; simp; omega) ?_; intro A3 c3 w3 hown3 hg3 hat3; have HOWN3 := Lib.hid hown3; have HG3 := Lib.hid hg3; clear hown3 hg3 hat3)
        | fail)
      go_roundw
      case rel =>
        have hal : Below w2.heap.size w2 (w2.alloc (.cells #[.int .i64 x.term, .int .i64 x.index, .int .i64 x.kind, .slice A2 p c2] 110)) := (Below.refl _ _).alloc (Nat.le_refl _) _
        have hb4 : Below w.heap.size w (w2.alloc (.cells #[.int .i64 x.term, .int .i64 x.index, .int .i64 x.kind, .slice A2 p c2] 110)) := below_step (below_step HB.out HB.out.size HB2.out) (Nat.le_trans HB.out.size HB2.out.size) hal
        have ho4 := own_keep (own_keep HO1.out HB2.out) hal
        have hx4 : EntO w.heap.size (w2.alloc (.cells #[.int .i64 x.term, .int .i64 x.index, .int .i64 x.kind, .slice A2 p c2] 110)) x (x.cells (.slice A2 p c2)) := ⟨A2, c2, by rw [HP.out], by rw [HP.out]; exact own_lower (own_keep HOWN2.out hal) HB.out.size⟩
        have hr4 : Recs (EntO w.heap.size) 4 (w2.alloc (.cells #[.int .i64 x.term, .int .i64 x.index, .int .i64 x.kind, .slice A2 p c2] 110)) (es.take q) cells := HR1.out.imp fun j y cs _ hl => (hl.below HB2.out).below hal
        refine ⟨q + 1, q + 1, c3, A3, by go_num, rfl, hlt, rfl, ?_, below_grown_own hb4 hb4.size ho4 (Nat.le_refl _) HG3.out⟩
        rw [HTK.out]
        exact OwnsE.snoc ho4 hr4 hx4 HOWN3.out HG3.out
      case measure => simp [intOf] <;> omega
    · have hki : ¬ (q : Int) < (m : Int) := by omega
      obtain rfl : q = m := by omega
      have HOWN := Lib.hid hown
      clear hown hb HST
      go_wp2_with fail
      go_ret
      refine ⟨B, q, cp, rfl, HM.out.symm, ?_, HB.out⟩
      have h9 := HOWN.out
      rw [← HM.out, List.take_length, HM.out] at h9
      exact h9
def RetView (v : Vw) (w : World) (e : Ending) (w' : World) : Prop := ∃ A n c, e = .returned (v.val (.slice A n c)) ∧ n = v.l.length ∧ OwnsE w.heap.size (.slice A n c) n v.l w' ∧ Below w.heap.size w w'
theorem OwnsE.far {base n : Nat} {v : Value} {es : List Ent} {W : World} (h : OwnsE base v n es W) (p : Addr) (hp : p.block < base) (u : Value) : OwnsE base v n es (W.setCell p u) := by
  obtain ⟨cells, h1, h2⟩ := h
  exact ⟨cells, ownsRow_setCell_below h1 hp _, h2.imp fun j x cs _ hl => by
    obtain ⟨A, c, e, ho⟩ := hl
    exact ⟨A, c, e, ownsRow_setCell_below ho hp _⟩⟩
theorem store3 (W : World) (g j : Nat) (a b c : Value) : (((W.setCell ⟨g + 1, 0, none⟩ a).setCell ⟨g + 1, 1, none⟩ b).setCell ⟨g + 1, 2, none⟩ c).cell? ⟨g, j, none⟩ = W.cell? ⟨g, j, none⟩ := by
  rw [World.cell?_setCell_other _ _ _ _ (fun h => by injection h with h1; omega), World.cell?_setCell_other _ _ _ _ (fun h => by injection h with h1; omega), World.cell?_setCell_other _ _ _ _ (fun h => by injection h with h1; omega)]
set_option maxRecDepth 16384 in
set_option maxHeartbeats 4000000 in
theorem view_any (v : Vw) (A : Option Addr) (n c : Nat) (w : World) (hn : v.l.length = n) (hn2 : n * 48 ≤ 140737488351232) (h : SeenE w A v.l) (hs : SmallE v.l) :
    Calls Tryz.prog 37 #[v.val (.slice A n c)] w (RetView v w) := by
  obtain ⟨b, t, l⟩ := v
  dsimp only at hn h hs
  unfold Vw.val RetView Vw.val
  dsimp only
  obtain ⟨w2, hw2⟩ : ∃ w2, (w.alloc (.cells #[.int .i64 b, .int .i64 t, .slice A n c] 66)).alloc (.cells #[.int .i64 0, .int .i64 0, .slice none 0 0] 48) = w2 := ⟨_, rfl⟩
  have hb2 : Below w.heap.size w w2 := by rw [← hw2]; exact ((Below.refl _ w).alloc (Nat.le_refl _) _).alloc (by simp) _
  have hz : w2.heap.size = w.heap.size + 2 := by rw [← hw2]; simp
  have x1 : w2.heap[w.heap.size]? = some (.cells #[.int .i64 b, .int .i64 t, .slice A n c] 66 (0, 0)) := by
    rw [← hw2]
    have h1 : (w.alloc (.cells #[.int .i64 b, .int .i64 t, .slice A n c] 66)).heap[w.heap.size]? = some (.cells #[.int .i64 b, .int .i64 t, .slice A n c] 66 (0, 0)) := heap_alloc_new w _
    exact (Below.heap_alloc _ _ _ (by simp)).trans h1
  have x2 : w2.heap[w.heap.size + 1]? = some (.cells #[.int .i64 0, .int .i64 0, .slice none 0 0] 48 (0, 0)) := by
    rw [← hw2]
    have := heap_alloc_new (w.alloc (.cells #[.int .i64 b, .int .i64 t, .slice A n c] 66)) (.cells #[.int .i64 0, .int .i64 0, .slice none 0 0] 48)
    simpa using this
  obtain ⟨gb, hgb⟩ : ∃ gb, w.heap.size = gb := ⟨_, rfl⟩
  rw [hgb] at x1 x2 hz
  have HOW := Lib.hid (fun W' (hb' : Below w2.heap.size w2 W') => own12_any A l n c W' hn hn2 (h.below (below_step hb2 hb2.size hb')) hs)
  have HN := Lib.hid hn
  have HZ := Lib.hid hz
  have HW2 := Lib.hid hw2
  have HB2 := Lib.hid hb2
  have HGB := Lib.hid hgb
  have HX2 := Lib.hid x2
  have k0 := cell_of_row w2 gb 0 _ _ _ x1
  have k1 := cell_of_row w2 gb 1 _ _ _ x1
  have k2 := cell_of_row w2 gb 2 _ _ _ x1
  simp at k0 k1 k2
  have HK : Hid (∀ W', Below w2.heap.size w2 W' → W'.cell? ⟨gb, 0, none⟩ = some (.int .i64 b) ∧ W'.cell? ⟨gb, 1, none⟩ = some (.int .i64 t) ∧ W'.cell? ⟨gb, 2, none⟩ = some (.slice A n c)) := Lib.hid (fun W' hb' => ⟨(hb'.cell (World.block_lt_of_cell? _ _ k0)).trans k0, (hb'.cell (World.block_lt_of_cell? _ _ k1)).trans k1, (hb'.cell (World.block_lt_of_cell? _ _ k2)).trans k2⟩)
  have HK2 : Hid (∀ W', Below w2.heap.size w2 W' → W'.heap[gb + 1]? = some (.cells #[.int .i64 0, .int .i64 0, .slice none 0 0] 48 (0, 0))) := Lib.hid (fun W' hb' => (hb'.block (gb + 1) (by omega)).trans x2)
  clear h hw2 hb2 hn hz x1 x2 hgb k0 k1 k2 hs
  go_enter Tryz.func37, Tryz.ntmps37
  go_upto_region 1 with fail
  rw [HW2.out]
  try rw [HGB.out]
  have b0 : Below w2.heap.size w2 w2.drew := (Below.refl _ _).drew
  go_region_held3 (fun W' => W'.cell? ⟨gb, 0, none⟩ = some (.int .i64 b) ∧ W'.cell? ⟨gb, 1, none⟩ = some (.int .i64 t) ∧ W'.cell? ⟨gb, 2, none⟩ = some (.slice A n c))
    (first
      | (refine HK.out _ ?_; assumption)
      | (rw [store3, store3, store3]; refine HK.out _ ?_; assumption)
      | fail)
    (first
      | (go_at_call 89; refine (HOW.out _ (by assumption)).mono ?_; rintro e w3 ⟨A3, n3, c3, rfl, hn3, hown3, hb3⟩; have hb3' := below_step (show Below w2.heap.size w2 _ by assumption) (Below.size (by assumption)) hb3; have HN3 := Lib.hid hn3; have HOWN3 := Lib.hid hown3; have hrow3 := HK2.out _ hb3'; have d0 := cell_of_row w3 (gb + 1) 0 _ _ _ hrow3; have d1 := cell_of_row w3 (gb + 1) 1 _ _ _ hrow3; have d2 := cell_of_row w3 (gb + 1) 2 _ _ _ hrow3; have df := frozen_of_cells hrow3; simp at d0 d1 d2; clear hrow3 hown3 hn3)
      | fail)
  all_goals (refine (fun (hrow : (((w3.setCell ⟨gb + 1, 0, none⟩ (.int .i64 b)).setCell ⟨gb + 1, 1, none⟩ (.int .i64 t)).setCell ⟨gb + 1, 2, none⟩ (.slice A3 n3 c3)).heap[gb + 1]? = some (.cells #[.int .i64 b, .int .i64 t, .slice A3 n3 c3] 48 (0, 0))) => ?_) (by simp [World.setCell, Array.getElem?_modify, HK2.out _ hb3'])
             go_wp2_with fail
             refine bodyPost_ret (v := .agg #[.int .i64 b, .int .i64 t, .slice A3 n3 c3]) (results_cell_row rfl _ _ _ _ _ _ _ rfl hrow Tryz.underlying48 rfl (by kernel_rfl)) rfl ?_
             have hgw := HGB.out
             have hz2 := HZ.out
             have hB3 := below_step HB2.out HB2.out.size hb3'
             refine ⟨A3, n3, c3, rfl, HN3.out, ?_, ((hB3.setCell (by show _ ≤ gb + 1; omega) _).setCell (by show _ ≤ gb + 1; omega) _).setCell (by show _ ≤ gb + 1; omega) _⟩
             have h0 := OwnsE.far HOWN3.out ⟨gb + 1, 0, none⟩ (by show gb + 1 < w2.heap.size; omega) (.int .i64 b)
             have h1 := OwnsE.far h0 ⟨gb + 1, 1, none⟩ (by show gb + 1 < w2.heap.size; omega) (.int .i64 t)
             have h2 := OwnsE.far h1 ⟨gb + 1, 2, none⟩ (by show gb + 1 < w2.heap.size; omega) (.slice A3 n3 c3)
             exact OwnsE.lower h2 (by show w.heap.size ≤ w2.heap.size; omega))
end Go.Proofs.YtoongmoajnedlaaGreat
