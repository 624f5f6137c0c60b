/-
  Entries, one by one, in memory of their own (behind).
-/
import Derived.Test.YtoongmoajnedlaaGreatEOwn2
import Derived.Test.YtoongmoajnedlaaGreatBack8
import Derived.Test.YtoongmoajnedlaaGreatClone
set_option linter.unusedVariables false
set_option linter.unusedSimpArgs false
namespace Go.Proofs.YtoongmoajnedlaaGreat
open Go.RowKit

theorem clone_q (A : Option Addr) (q c : Nat) (bs : List UInt8) (w : World) (hq : bs.length = q) (hc : q ≤ c) (hl : q ≤ 140737488351232) (h : Sees w A (u8s bs)) :
    Calls Tryz.prog 108 #[.slice A q c] w (RetOwn w 5 1 q (u8s bs)) := by
  subst hq
  exact clone_u8 A bs c w hc (by omega) h
set_option maxHeartbeats 2000000 in
theorem own_any (x : Ent) (A : Option Addr) (n c : Nat) (w : World) (hn : x.data.length = n) (hnc : n ≤ c) (hl : n ≤ 140737488351232) (h : Sees w A (u8s x.data)) :
    Calls Tryz.prog 171 #[x.val (.slice A n c)] w (RetEnt x w) := by
  obtain ⟨w2, hw2, hb2, hz, x1, x2⟩ := two_boxes x (.slice A n c) w
  obtain ⟨t, i, k, data⟩ := x
  dsimp only at hn h hw2 x1 x2
  unfold Ent.val RetEnt Ent.val
  dsimp only
  rw [hn]
  obtain ⟨gb, hgb⟩ : ∃ gb, w.heap.size = gb := ⟨_, rfl⟩
  rw [hgb] at x1 x2 hz
  have HS := Lib.hid (h.below hb2)
  have HN : Hid ((u8s data).length = n * 1) := Lib.hid (by rw [u8s_length, hn, Nat.mul_one])
  have HZ := Lib.hid hz
  have HND := Lib.hid hn
  have HNC := Lib.hid hnc
  have HW2 := Lib.hid hw2
  have HB2 := Lib.hid hb2
  have HGB := Lib.hid hgb
  have q0 := cell_of_row w2 gb 3 _ _ _ x1
  simp at q0
  have HX1 := Lib.hid x1
  have HX2 := Lib.hid x2
  clear h hw2 hb2 hn hz x1 x2 hgb hnc
  go_enter Tryz.func171, Tryz.ntmps171
  go_upto_region 1 with fail
  rw [HW2.out]
  try rw [HGB.out]
  go_upto_region 2 with (first
    | (go_at_call 108; refine (clone_q A n c data w2 HND.out HNC.out hl HS.out).mono ?_; rintro e w3 ⟨A3, c3, rfl, hown3, hb3⟩; have y1 := (hb3.block gb (by have := HZ.out; omega)).trans HX1.out; have y2 := (hb3.block (gb + 1) (by have := HZ.out; omega)).trans HX2.out; have f10 := frozen_of_cells y1 3; have c13 := cell_of_row w3 gb 3 _ _ _ y1; have HY1 := Lib.hid y1; have HY2 := Lib.hid y2; have HB3 := Lib.hid hb3; have HOWN3 := Lib.hid hown3; simp at c13; clear hown3 hb3 y1 y2)
    | fail)
  clear q0 c13 f10
  obtain ⟨w4, hw4⟩ : ∃ w4, w3.setCell ⟨gb, 3, none⟩ (.slice A3 n c3) = w4 := ⟨_, rfl⟩
  have z1 : w4.heap[gb]? = some (.cells #[.int .i64 t, .int .i64 i, .int .i64 k, .slice A3 n c3] 110 (0, 0)) := by
    rw [← hw4]
    simp [World.setCell, Array.getElem?_modify, HY1.out]
  have z2 : w4.heap[gb + 1]? = some (.cells #[.int .i64 0, .int .i64 0, .int .i64 0, .slice none 0 0] 110 (0, 0)) := by
    rw [← hw4]
    simp [World.setCell, Array.getElem?_modify, HY2.out]
  have HW4 := Lib.hid hw4
  rw [hw4]
  have a0 := cell_of_row w4 gb 0 _ _ _ z1
  have a1 := cell_of_row w4 gb 1 _ _ _ z1
  have a2 := cell_of_row w4 gb 2 _ _ _ z1
  have a3 := cell_of_row w4 gb 3 _ _ _ z1
  have b0 := cell_of_row w4 (gb + 1) 0 _ _ _ z2
  have b1 := cell_of_row w4 (gb + 1) 1 _ _ _ z2
  have b2 := cell_of_row w4 (gb + 1) 2 _ _ _ z2
  have b3 := cell_of_row w4 (gb + 1) 3 _ _ _ z2
  have fb := frozen_of_cells z2
  simp at a0 a1 a2 a3 b0 b1 b2 b3
  have HZ2 := Lib.hid z2
  clear hw4 z1 z2
  go_wp2_with fail
  have hrow : ((((w4.setCell ⟨gb + 1, 0, none⟩ (.int .i64 t)).setCell ⟨gb + 1, 1, none⟩ (.int .i64 i)).setCell ⟨gb + 1, 2, none⟩ (.int .i64 k)).setCell ⟨gb + 1, 3, none⟩ (.slice A3 n c3)).heap[gb + 1]? = some (.cells #[.int .i64 t, .int .i64 i, .int .i64 k, .slice A3 n c3] 110 (0, 0)) := by
    simp [World.setCell, Array.getElem?_modify, HZ2.out]
  refine bodyPost_ret (v := .agg #[.int .i64 t, .int .i64 i, .int .i64 k, .slice A3 n c3]) (results_cell_row rfl _ _ _ _ _ _ _ rfl hrow Tryz.underlying110 rfl (by kernel_rfl)) rfl ?_
  have hB3 := below_step HB2.out HB2.out.size HB3.out
  have hgw := HGB.out
  have hz2 := HZ.out
  refine ⟨A3, c3, rfl, ?_, ?_⟩
  · rw [← HW4.out]
    exact own_lower (ownsRow_setCell_below (ownsRow_setCell_below (ownsRow_setCell_below (ownsRow_setCell_below (ownsRow_setCell_below HOWN3.out (by show gb < _; omega) _) (by show gb + 1 < _; omega) _) (by show gb + 1 < _; omega) _) (by show gb + 1 < _; omega) _) (by show gb + 1 < _; omega) _) (by omega)
  · rw [← HW4.out]
    exact ((((hB3.setCell (by show _ ≤ gb; omega) _).setCell (by show _ ≤ gb + 1; omega) _).setCell (by show _ ≤ gb + 1; omega) _).setCell (by show _ ≤ gb + 1; omega) _).setCell (by show _ ≤ gb + 1; omega) _

theorem behind_any (v : Value) (hv : v.oneCell' = true) (i : Int) (w : World) : Calls Tryz.prog 142 #[v, .int .i64 i] w fun e w' => e = .returned (.func (.func 170) #[] #[.pointer (some ⟨w.heap.size, 0, none⟩), .pointer (some ⟨w.heap.size + 1, 0, none⟩)]) ∧ (w.alloc (.cells #[v] 28)).alloc (.cells #[.int .i64 i] 3) = w' := by
  cases v <;> first | cases hv | skip
  all_goals
    go_enter Tryz.func142, Tryz.ntmps142
    go_wp2
    try go_ret
    try exact ⟨rfl, rfl⟩
/-- What the iterator hands over. -/
def entEnc (n0 : Nat) (k : Nat) (x : Ent) (args : Array Value) (W : World) : Prop := ∃ A c, args = #[x.val (.slice A x.data.length c)] ∧ W.ownsRow n0 5 1 (.slice A x.data.length c) x.data.length (u8s x.data)
def aheadL (i : Int) (l : List Ent) (k : Nat) : List Ent := (l.take k).filter fun x => decide (i ≤ x.index)
def fromA (i : Int) (l : List Ent) : List Ent := l.filter fun x => decide (i ≤ x.index)
theorem ahead_step {l : List Ent} {i : Int} {k : Nat} {x : Ent} (h : l[k]? = some x) (hi : i ≤ x.index) : (aheadL i l (k + 1)).length = (aheadL i l k).length + 1 := by
  obtain ⟨hk, rfl⟩ := List.getElem?_eq_some_iff.1 h
  unfold aheadL
  rw [List.take_succ_eq_append_getElem hk, List.filter_append]
  simp [hi]
theorem ahead_skip {l : List Ent} {i : Int} {k : Nat} {x : Ent} (h : l[k]? = some x) (hi : ¬ i ≤ x.index) : (aheadL i l (k + 1)).length = (aheadL i l k).length := by
  obtain ⟨hk, rfl⟩ := List.getElem?_eq_some_iff.1 h
  unfold aheadL
  rw [List.take_succ_eq_append_getElem hk, List.filter_append]
  simp [hi]
theorem ahead_get {l : List Ent} {i : Int} {k : Nat} {x : Ent} (h : l[k]? = some x) (hi : i ≤ x.index) : (fromA i l)[(aheadL i l k).length]? = some x := by
  obtain ⟨hk, rfl⟩ := List.getElem?_eq_some_iff.1 h
  unfold fromA aheadL
  conv => lhs; arg 1; rw [← List.take_append_drop k l]
  rw [List.filter_append, List.getElem?_append_right (Nat.le_refl _), Nat.sub_self, List.drop_eq_getElem_cons hk, List.filter_cons_of_pos (by simpa using hi)]
  rfl
theorem ahead_all {l : List Ent} {i : Int} : aheadL i l l.length = fromA i l := by
  unfold aheadL fromA
  rw [List.take_length]
theorem ahead_le {l : List Ent} {i : Int} {k : Nat} : (aheadL i l k).length ≤ (fromA i l).length := by
  unfold aheadL fromA
  conv => rhs; rw [← List.take_append_drop k l]
  rw [List.filter_append, List.length_append]
  omega
/-- What the iterator sees: the blocks Kb lie as they lay in the world w1. -/
def bhRel (n0 : Nat) (Kb : Nat → Prop) (w1 : World) (i : Int) (l : List Ent) (J : Nat → World → Prop) (at_ : Value) (wr : World) : Prop :=
  ∃ k : Nat, at_ = .int .i64 (k : Int) ∧ k ≤ l.length ∧ (∀ b, Kb b → wr.heap[b]? = w1.heap[b]?) ∧ J (aheadL i l k).length wr ∧ n0 ≤ wr.heap.size ∧ w1.heap.size ≤ wr.heap.size
set_option maxRecDepth 16384 in
set_option maxHeartbeats 8000000 in
theorem behind_seq (Kb : Nat → Prop) (n0 B1 B2 : Nat) (A : Option Addr) (n c : Nat) (i : Int) (l : List Ent) (w0 w : World) (hw0 : Below w0.heap.size w0 w) (hn : l.length = n) (hn2 : n * 48 ≤ 140737488351232) (h0 : SeenE w0 A l) (hs : SmallE l)
    (hb1 : w.cell? ⟨B1, 0, none⟩ = some (.slice A n c)) (hb2 : w.cell? ⟨B2, 0, none⟩ = some (.int .i64 i)) (hK0 : ∀ b, b < w0.heap.size → Kb b) (hK2 : Kb B2) (hK : ∀ b, Kb b → b < w.heap.size) (hn0 : n0 ≤ w.heap.size) :
    SeqX Tryz.prog 170 #[.pointer (some ⟨B1, 0, none⟩), .pointer (some ⟨B2, 0, none⟩)] (entEnc n0) (fromA i l) NoStep Kb w := by
  intro ll J Jx W hW hJ hJx hY hj0
  have c1 := (hW.cell (World.block_lt_of_cell? _ _ hb1)).trans hb1
  have c2 := (hW.cell (World.block_lt_of_cell? _ _ hb2)).trans hb2
  have HST : Hid (bhRel n0 Kb W i l J (.int .i64 0) W) := Lib.hid ⟨0, rfl, Nat.zero_le _, fun _ _ => rfl, hj0, Nat.le_trans hn0 hW.size, Nat.le_refl _⟩
  have HKW : Hid (∀ b, Kb b → b < W.heap.size) := Lib.hid (fun b hb => Nat.lt_of_lt_of_le (hK b hb) hW.size)
  have HC2 : Hid (∀ wr : World, (∀ b, Kb b → wr.heap[b]? = W.heap[b]?) → wr.cell? ⟨B2, 0, none⟩ = some (.int .i64 i)) := Lib.hid (fun wr hk => by rw [World.cell?_of_block (hk _ hK2)]; exact c2)
  have HW0 : Hid (Below w0.heap.size w0 W) := Lib.hid (below_step hw0 hw0.size hW)
  have HSE : Hid (∀ (wr : World) (p : Addr) (v : Value), (∀ b, Kb b → wr.heap[b]? = W.heap[b]?) → w0.cell? p = some v → wr.cell? p = some v) := Lib.hid (fun wr p v hk hc => by
    have hlt := World.block_lt_of_cell? _ _ hc
    rw [World.cell?_of_block (hk _ (hK0 _ hlt)), HW0.out.cell hlt]
    exact hc)
  have H := Lib.hid h0
  have HN := Lib.hid hn
  have HS := Lib.hid hs
  have HJ := Lib.hid hJ
  have HJx := Lib.hid hJx
  have HY := Lib.hid hY
  clear hJ hJx hY hb1 hb2 h0 hn hs hK0 hK2 hK hW hw0 hn0 hj0
  refine callsIn_wide.2 ?_
  go_enter Tryz.func170, Tryz.ntmps170
  go_wp2_with fail
  clear c1 c2
  go_loopw [8] (fun at_ wr => bhRel n0 Kb W i l J at_ wr) (fun at_ _ => n - (intOf at_).toNat)
  case atStart => exact HST.out
  case round =>
    obtain ⟨k, rfl, hk, hkeep, hj, hz, hzw⟩ := hrel
    rw [HN.out] at hk
    have HKP := Lib.hid hkeep
    have HJK := Lib.hid hj
    clear hkeep hj
    by_cases hlt : k < n
    · have hki : (k : Int) < (n : Int) := by omega
      have hkl : k < l.length := by rw [HN.out]; exact hlt
      obtain ⟨x, hx⟩ : ∃ x, l[k] = x := ⟨_, rfl⟩
      have hget : l[k]? = some x := by rw [List.getElem?_eq_getElem hkl, hx]
      have HGET := Lib.hid hget
      obtain ⟨ad, A1, c1', rfl, hcs, hc1, hsd⟩ := H.out.at hget
      have hsm := HS.out x (by rw [← hx]; exact List.getElem_mem hkl)
      obtain ⟨p, hp⟩ : ∃ p, x.data.length = p := ⟨_, rfl⟩
      rw [hp] at hcs hc1 hsm
      have HP := Lib.hid hp
      have HC1 := Lib.hid hc1
      have HCS : Hid (∀ j u, (x.cells (.slice A1 p c1'))[j]? = some u → wr.cell? ((ad.add (k * 4)).add j) = some u) := Lib.hid (fun j u hj => HSE.out wr _ _ HKP.out (hcs j u hj))
      have HSD : Hid (Sees wr A1 (u8s x.data)) := Lib.hid (fun j u hj => by
        obtain ⟨ad', e, hc⟩ := hsd j u hj
        exact ⟨ad', e, HSE.out wr _ _ HKP.out hc⟩)
      obtain ⟨WB, hWB, hbW, hzW, hcW⟩ := box_ent x (.slice A1 p c1') wr
      obtain ⟨bx, hbx⟩ : ∃ bx, wr.heap.size = bx := ⟨_, rfl⟩
      rw [hbx] at hcW hzW
      have HWB := Lib.hid hWB
      have HBW := Lib.hid hbW
      have HBX := Lib.hid hbx
      have HK3 : Hid (∀ W', Below wr.heap.size wr W' → ∀ b, Kb b → W'.heap[b]? = W.heap[b]?) := Lib.hid (fun W' hb' b hb => (hb'.block b (Nat.lt_of_lt_of_le (HKW.out b hb) hzw)).trans (HKP.out b hb))
      have y2 := HC2.out WB (HK3.out WB hbW)
      have y2' := HC2.out wr HKP.out
      have z0 : WB.cell? ⟨bx, 0, none⟩ = some (.int .i64 x.term) := hcW 0 _ rfl
      have z1 : WB.cell? ⟨bx, 1, none⟩ = some (.int .i64 x.index) := hcW 1 _ rfl
      have z2 : WB.cell? ⟨bx, 2, none⟩ = some (.int .i64 x.kind) := hcW 2 _ rfl
      have z3 : WB.cell? ⟨bx, 3, none⟩ = some (.slice A1 p c1') := hcW 3 _ rfl
      have HOC := Lib.hid (own_any x A1 p c1' WB hp hc1 hsm (HSD.out.below hbW))
      rw [Ent.val_eq] at HOC
      unfold Ent.cells at HOC
      clear hcs hWB hbW hzW hcW hsd hx hget hkl hp hbx
      go_upto_region 3 with (first
        | (refine wpList_load_far rfl 110 _ rfl (ad.add (k * 4)) rfl (x.cells (.slice A1 p c1')) _ HCS.out Tryz.underlying110 rfl (by kernel_rfl) ?_)
        | (refine wpList_store_mid rfl 110 _ _ rfl wr.heap.size 0 (x.cells (.slice A1 p c1')).toArray rfl rfl (there_one4 wr) (by kernel_rfl) (ent_ones x A1 p c1') ?_)
        | fail)
      have hWW := HWB.out
      unfold zeros4 at hWW
      rw [hWW, HBX.out]
      clear hWW y2'
      by_cases hi : i ≤ x.index
      · have HI := Lib.hid hi
        obtain ⟨j, hj⟩ : ∃ j, (aheadL i l k).length = j := ⟨_, rfl⟩
        have HXJ : Hid ((fromA i l)[j]? = some x) := Lib.hid (by rw [← hj]; exact ahead_get HGET.out hi)
        have HJN : Hid ((aheadL i l (k + 1)).length = j + 1) := Lib.hid (by rw [← hj]; exact ahead_step HGET.out hi)
        have HJJ : Hid (J j wr) := Lib.hid (by rw [← hj]; exact HJK.out)
        clear hj
        refine (wpIn_wide (n := 0)).1 ?_
        gi_wp2_with (first
          | (refine ⟨trivial, rfl, ?_⟩; gi_at_call 171; refine (callsIn_wide.2 HOC.out).mono ?_; rintro e w3 ⟨A3, c3, rfl, hown3, hb3⟩;
              have hb3' := below_step HBW.out HBW.out.size hb3;
              have hown3' : w3.ownsRow n0 5 1 (.slice A3 x.data.length c3) x.data.length (u8s x.data) := own_lower hown3 (Nat.le_trans hz HBW.out.size);
              obtain ⟨fn, tm, asg, bod, hy, hR⟩ := HY.out j x w3 #[x.val (.slice A3 x.data.length c3)] (HJ.out.1 _ _ _ HJJ.out (below_grown hb3')) HXJ.out ⟨A3, c3, rfl, hown3'⟩)
          | (refine ⟨rfl, ?_⟩; refine hR.mono ?_; rintro e w4 h4; obtain ⟨b, rfl, hb4⟩ := rec_ways h4; clear h4)
          | fail)
        have hlen1 : j + 1 ≤ (fromA i l).length := (List.getElem?_eq_some_iff.1 HXJ.out).1
        rcases hb4.out with ⟨rfl, hj4, hk4⟩ | ⟨rfl, hx4⟩
        · have HK4 : Hid (∀ b, Kb b → w4.heap[b]? = W.heap[b]?) := Lib.hid (fun b hb => (hk4.2 b hb).trans (HK3.out w3 hb3' b hb))
          have HJ4 : Hid (J (aheadL i l (k + 1)).length w4) := Lib.hid (by rw [HJN.out]; exact hj4)
          have hz4 : wr.heap.size ≤ w4.heap.size := Nat.le_trans hb3'.size hk4.1
          clear hj4 hk4 hown3 hown3' hb3 hb3' hy hR z0 z1 z2 z3 y2
          go_wp2
          go_roundw
          case rel => exact ⟨k + 1, by go_num, by rw [HN.out]; exact hlt, HK4.out, HJ4.out, Nat.le_trans hz hz4, Nat.le_trans hzw hz4⟩
          case measure => simp [intOf] <;> omega
        · clear hown3 hown3' hb3 hb3' hy hR z0 z1 z2 z3 y2
          go_wp2
          refine bodyPost_ret (results_none rfl _ _ _) rfl ?_
          exact ⟨⟨_, rfl⟩, .inr ⟨j + 1, hlen1, hx4⟩⟩
      · have HJN : Hid (J (aheadL i l (k + 1)).length WB) := Lib.hid (by rw [ahead_skip HGET.out hi]; exact HJ.out.1 _ _ _ HJK.out (below_grown HBW.out))
        go_wp2_with fail
        go_roundw
        case rel => exact ⟨k + 1, by go_num, by rw [HN.out]; exact hlt, HK3.out WB HBW.out, HJN.out, Nat.le_trans hz HBW.out.size, Nat.le_trans hzw HBW.out.size⟩
        case measure => simp [intOf] <;> omega
    · have hki : ¬ (k : Int) < (n : Int) := by omega
      obtain rfl : k = n := by omega
      go_wp2_with fail
      go_end0
      refine ⟨⟨_, rfl⟩, .inl ?_⟩
      have h9 := HJK.out
      rw [← HN.out, ahead_all] at h9
      exact h9
end Go.Proofs.YtoongmoajnedlaaGreat
