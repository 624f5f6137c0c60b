/-
  The program's Batch.
-/
import Derived.Test.YtlcnpfiiijehmaaFromP
import Derived.Test.YtlcnpfiiijehmaaRBatch
set_option linter.unusedVariables false
set_option linter.unusedSimpArgs false
namespace Go.Proofs.Ytlcnpfiiijehmaa
open Go.RowKit

/-- What is sent, in memory of its own. -/
def RetBatch (v : Vw) (next : Int) (w : World) (e : Ending) (w' : World) : Prop := ∃ A n c, e = .returned (.agg #[.bool (batchV v next).1, .int .i64 (batchV v next).2.1, .int .i64 (batchV v next).2.2.1, .slice A n c]) ∧ OwnsE w.heap.size (.slice A n c) n (batchV v next).2.2.2 w' ∧ Below w.heap.size w w'
def SendAt (W : World) (g : Nat) (b : Bool) (p t : Int) (d : Value) : Prop := W.heap[g]? = some (.cells #[.bool b, .int .i64 p, .int .i64 t, d] 45 (0, 0))
section
variable {W : World} {g : Nat} {b : Bool} {p t : Int} {d : Value}
theorem SendAt.cells (h : SendAt W g b p t d) : W.cell? ⟨g, 0, none⟩ = some (.bool b) ∧ W.cell? ⟨g, 1, none⟩ = some (.int .i64 p) ∧ W.cell? ⟨g, 2, none⟩ = some (.int .i64 t) ∧ W.cell? ⟨g, 3, none⟩ = some d :=
  ⟨by rw [cell_of_row _ _ 0 _ _ _ h]; rfl, by rw [cell_of_row _ _ 1 _ _ _ h]; rfl, by rw [cell_of_row _ _ 2 _ _ _ h]; rfl, by rw [cell_of_row _ _ 3 _ _ _ h]; rfl⟩
theorem SendAt.below {n : Nat} {W' : World} (h : SendAt W g b p t d) (hb : Below n W W') (hg : g < n) : SendAt W' g b p t d := (hb.block g hg).trans h
theorem SendAt.set0 (h : SendAt W g b p t d) (x : Bool) : SendAt (W.setCell ⟨g, 0, none⟩ (.bool x)) g x p t d := by unfold SendAt at *; simp [World.setCell, Array.getElem?_modify, h]
theorem SendAt.set1 (h : SendAt W g b p t d) (x : Int) : SendAt (W.setCell ⟨g, 1, none⟩ (.int .i64 x)) g b x t d := by unfold SendAt at *; simp [World.setCell, Array.getElem?_modify, h]
theorem SendAt.set2 (h : SendAt W g b p t d) (x : Int) : SendAt (W.setCell ⟨g, 2, none⟩ (.int .i64 x)) g b p x d := by unfold SendAt at *; simp [World.setCell, Array.getElem?_modify, h]
theorem SendAt.set3 (h : SendAt W g b p t d) (x : Value) : SendAt (W.setCell ⟨g, 3, none⟩ x) g b p t x := by unfold SendAt at *; simp [World.setCell, Array.getElem?_modify, h]
theorem SendAt.far (h : SendAt W g b p t d) (q : Addr) (hq : q.block ≠ g) (x : Value) : SendAt (W.setCell q x) g b p t d := (Below.heap_setCell _ _ _ _ (fun e => hq e.symm)).trans h
theorem SendAt.all (h : SendAt W g b p t d) (b' : Bool) (p' t' : Int) (d' : Value) : SendAt ((((W.setCell ⟨g, 0, none⟩ (.bool b')).setCell ⟨g, 1, none⟩ (.int .i64 p')).setCell ⟨g, 2, none⟩ (.int .i64 t')).setCell ⟨g, 3, none⟩ d') g b' p' t' d' := (((h.set0 b').set1 p').set2 t').set3 d'
end
theorem below_set {n : Nat} {a W : World} (h : Below n a W) (p : Addr) (hp : n ≤ p.block) (v : Value) : Below n a (W.setCell p v) := h.setCell hp v
set_option maxRecDepth 16384 in
set_option maxHeartbeats 8000000 in
theorem batch_any (v : Vw) (next : Int) (A : Option Addr) (n c : Nat) (w : World) (hx : IntOk next) (hn : v.l.length = n) (hn2 : n * 48 ≤ 140737488351232) (h : SeenE w A v.l) (hs : SmallE v.l) :
    Calls Try.prog 17 #[v.val (.slice A n c), .int .i64 next] w (RetBatch v next w) := by
  unfold IntOk at hx
  obtain ⟨W0, hW0⟩ : ∃ W0, w.alloc (.cells #[.int .i64 v.base, .int .i64 v.term, .slice A n c] 26) = W0 := ⟨_, rfl⟩
  obtain ⟨W, hW⟩ : ∃ W, W0.alloc (.cells #[.bool false, .int .i64 0, .int .i64 0, .slice none 0 0] 45) = W := ⟨_, rfl⟩
  have hz0 : W0.heap.size = w.heap.size + 1 := by rw [← hW0]; simp
  have hz : W.heap.size = w.heap.size + 2 := by rw [← hW, World.size_alloc, hz0]
  have hb0 : Below w.heap.size w W0 := by rw [← hW0]; exact (Below.refl _ _).alloc (Nat.le_refl _) _
  have hb1 : Below W0.heap.size W0 W := by rw [← hW]; exact (Below.refl _ _).alloc (Nat.le_refl _) _
  have hb : Below w.heap.size w W := below_step hb0 hb0.size hb1
  have hr0 : W0.heap[w.heap.size]? = some (.cells #[.int .i64 v.base, .int .i64 v.term, .slice A n c] 26 (0, 0)) := by rw [← hW0]; exact heap_alloc_new w _
  have hr : W.heap[w.heap.size]? = some (.cells #[.int .i64 v.base, .int .i64 v.term, .slice A n c] 26 (0, 0)) := (hb1.block _ (by omega)).trans hr0
  have hx2 : SendAt W (w.heap.size + 1) false 0 0 (.slice none 0 0) := by
    have h9 : W.heap[W0.heap.size]? = some (.cells #[.bool false, .int .i64 0, .int .i64 0, .slice none 0 0] 45 (0, 0)) := by rw [← hW]; exact heap_alloc_new W0 _
    rwa [hz0] at h9
  have HRT := Lib.hid (fun W' (hb' : Below w.heap.size w W') => rightv_any v A n c W' hn (by omega) (h.below hb') hs)
  obtain ⟨r, hrr⟩ : ∃ r, rightV v = r := ⟨_, rfl⟩
  rw [hrr] at HRT
  have HLS := Lib.hid (fun W' (hb' : Below w.heap.size w W') => lastof_any v A n c W' hn (by omega) (h.below hb') hs)
  have HTO := Lib.hid (fun W' (hb' : Below w.heap.size w W') i => termof_any v i A n c W' hn (by omega) (h.below hb') hs)
  have HFR := Lib.hid (fun W' (hb' : Below w.heap.size w W') i => from_any v i A n c W' hn hn2 (h.below hb') hs)
  have HRR := Lib.hid hrr
  have HN := Lib.hid hn
  have HB := Lib.hid hb
  have HZ := Lib.hid hz
  have HX2 := Lib.hid hx2
  have HW0 := Lib.hid hW0
  have HW := Lib.hid hW
  have HK : Hid (∀ W', Below W.heap.size W W' → W'.cell? ⟨w.heap.size, 0, none⟩ = some (.int .i64 v.base) ∧ W'.cell? ⟨w.heap.size, 1, none⟩ = some (.int .i64 v.term) ∧ W'.cell? ⟨w.heap.size, 2, none⟩ = some (.slice A n c)) := Lib.hid (fun W' hb' => by
    have h9 := (hb'.block w.heap.size (Array.getElem?_eq_some_iff.1 hr).1).trans hr
    exact ⟨by rw [cell_of_row _ _ 0 _ _ _ h9]; rfl, by rw [cell_of_row _ _ 1 _ _ _ h9]; rfl, by rw [cell_of_row _ _ 2 _ _ _ h9]; rfl⟩)
  obtain ⟨k0, k1, k2⟩ := HK.out W (Below.refl _ _)
  clear hW0 hW hz0 hz hb0 hb1 hb hr0 hr hx2 hrr hn hs h
  unfold Vw.val at HRT HLS HTO HFR ⊢
  obtain ⟨gb, hgb⟩ : ∃ gb, w.heap.size = gb := ⟨_, rfl⟩
  rw [hgb] at k0 k1 k2
  have HGB := Lib.hid hgb
  go_enter Try.func17, Try.ntmps17
  go_upto_region 1 with fail
  rw [HW0.out, HW.out]
  obtain ⟨lv, hlv⟩ : ∃ lv, (if rightV v then lastV v else 0) = lv := ⟨_, rfl⟩
  have HLV := Lib.hid hlv
  clear hlv
  obtain ⟨lt, hlt⟩ : ∃ lt, (if rightV v then atV v (lastV v) else 0) = lt := ⟨_, rfl⟩
  have HLT := Lib.hid hlt
  clear hlt
  go_upto_region 2 with (first
    | (go_at_call 25; refine (HLS.out W HB.out).mono ?_; rintro e w2 ⟨rfl, hb2⟩; rw [HLV.out, HLT.out]; have HL2 := Lib.hid hb2; obtain ⟨c0, c1, c2⟩ := HK.out w2 hb2; rw [hgb] at c0 c1 c2; clear hb2)
    | fail)
  clear k0 k1 k2
  obtain ⟨w3, hw3⟩ : ∃ w3, w2.alloc (.cells #[.bool false, .int .i64 0, .int .i64 0, .slice none 0 0] 45) = w3 := ⟨_, rfl⟩
  have hb3 : Below w2.heap.size w2 w3 := by rw [← hw3]; exact (Below.refl _ _).alloc (Nat.le_refl _) _
  obtain ⟨bs, hbs⟩ : ∃ bs, w2.heap.size = bs := ⟨_, rfl⟩
  have hs3 : SendAt w3 bs false 0 0 (.slice none 0 0) := by rw [← hw3, ← hbs]; exact heap_alloc_new w2 _
  have hgs : gb + 2 ≤ bs := by have := HL2.out.size; have := HZ.out; omega
  have hr3 : SendAt w3 (gb + 1) false 0 0 (.slice none 0 0) := by
    have h9 := HX2.out
    rw [hgb] at h9
    exact (h9.below HL2.out (by have := HZ.out; omega)).below hb3 (by omega)
  have HZ3 : Hid (bs < w3.heap.size) := Lib.hid (by rw [← hbs, ← hw3]; simp)
  have HL3 := Lib.hid (below_step HL2.out HL2.out.size hb3)
  have HS3 := Lib.hid hs3
  have HR3 := Lib.hid hr3
  have HW3 := Lib.hid hw3
  have HBW : Hid (∀ W', Below w3.heap.size w3 W' → Below w.heap.size w W') := Lib.hid (fun W' hb' => below_step (below_step HB.out HB.out.size HL3.out) (Nat.le_trans HB.out.size HL3.out.size) hb')
  have HKK : Hid (∀ W', Below w3.heap.size w3 W' → (W'.cell? ⟨gb, 0, none⟩ = some (.int .i64 v.base) ∧ W'.cell? ⟨gb, 1, none⟩ = some (.int .i64 v.term) ∧ W'.cell? ⟨gb, 2, none⟩ = some (.slice A n c)) ∧ SendAt W' bs false 0 0 (.slice none 0 0) ∧ SendAt W' (gb + 1) false 0 0 (.slice none 0 0)) := Lib.hid (fun W' hb' => by
    rw [← hgb]
    refine ⟨HK.out W' (below_step HL3.out HL3.out.size hb'), HS3.out.below hb' HZ3.out, ?_⟩
    have h9 := HR3.out.below hb' (by have := HZ3.out; omega)
    rwa [← hgb] at h9)
  clear hw3 hb3 hs3 hr3 c0 c1 c2
  go_upto_region 3 with fail
  rw [HW3.out]
  try rw [hbs]
  clear hbs
  have f0 : Below w3.heap.size w3 w3 := Below.refl _ _
  obtain ⟨⟨c0', c1', c2'⟩, hsd', hrs'⟩ := HKK.out w3 f0
  clear f0 hsd' hrs'
  cases r with
  | false =>
    have HV : Hid (batchV v next = (false, 0, 0, [])) := Lib.hid (by unfold batchV; rw [if_pos HRR.out])
    go_wp2_with (first
      | (go_at_call 24; refine (HRT.out w3 (HBW.out w3 (Below.refl _ _))).mono ?_; rintro e w4 ⟨rfl, hb4⟩; have HL4 := Lib.hid hb4; obtain ⟨⟨c0, c1, c2⟩, hsd, hrs⟩ := HKK.out w4 hb4; have HSD := Lib.hid hsd; have HRS := Lib.hid hrs; have hfz := frozen_of_cells hrs; have hfs := frozen_of_cells hsd; obtain ⟨s0, s1, s2, s3⟩ := hsd.cells; obtain ⟨r0, r1, r2, r3⟩ := hrs.cells; clear hb4 hsd hrs)
      | fail)
    have hrowZ := HRS.out.all false 0 0 (.slice none 0 0)
    unfold SendAt at hrowZ
    (try simp only [Exit.inBlock, Exit.then])
    refine bodyPost_ret (v := .agg #[.bool false, .int .i64 0, .int .i64 0, .slice none 0 0]) (results_cell_row rfl _ _ _ _ _ _ _ rfl hrowZ Try.underlying45 rfl (by kernel_rfl)) rfl ?_
    have hgw := HGB.out
    refine ⟨none, 0, 0, by rw [HV.out], by rw [HV.out]; exact OwnsE.nil _ _, ?_⟩
    exact below_set (below_set (below_set (below_set (HBW.out _ HL4.out) _ (by show _ ≤ gb + 1; omega) _) _ (by show _ ≤ gb + 1; omega) _) _ (by show _ ≤ gb + 1; omega) _) _ (by show _ ≤ gb + 1; omega) _
  | true =>
    obtain ⟨b1, b2, t1, t2, n1, hrow⟩ := rightV_iff.1 HRR.out
    rw [HN.out] at n1
    have hlv2 : lv = v.base + (n : Int) := by rw [← HLV.out, HRR.out, if_pos rfl]; unfold lastV; rw [HN.out]
    have HLVE : Hid (lastV v = lv) := Lib.hid (by rw [← HLV.out, HRR.out, if_pos rfl])
    have HRF : Hid (¬ rightV v = false) := Lib.hid (by rw [HRR.out]; decide)
    clear t1 t2 hrow
    by_cases g1 : next ≤ v.base
    · have HV : Hid (batchV v next = (true, 0, 0, [])) := Lib.hid (by unfold batchV; rw [if_neg HRF.out, if_pos g1])
      go_upto_region 8 with (first
        | (go_at_call 24; refine (HRT.out w3 (HBW.out w3 (Below.refl _ _))).mono ?_; rintro e w4 ⟨rfl, hb4⟩; have HL4 := Lib.hid hb4; obtain ⟨⟨c0, c1, c2⟩, hsd, hrs⟩ := HKK.out w4 hb4; have HSD := Lib.hid hsd; have HRS := Lib.hid hrs; have hfz := frozen_of_cells hrs; have hfs := frozen_of_cells hsd; obtain ⟨s0, s1, s2, s3⟩ := hsd.cells; obtain ⟨r0, r1, r2, r3⟩ := hrs.cells; clear hb4 hsd hrs)
        | fail)
      have hset := HSD.out.set0 true
      obtain ⟨s0', s1', s2', s3'⟩ := hset.cells
      have hrs8 := HRS.out.far ⟨bs, 0, none⟩ (by show bs ≠ gb + 1; omega) (.bool true)
      obtain ⟨r0', r1', r2', r3'⟩ := hrs8.cells
      have HRS8 := Lib.hid hrs8
      have hfz8 := frozen_of_cells hrs8
      obtain ⟨w8, hw8⟩ : ∃ w8, w4.setCell ⟨bs, 0, none⟩ (.bool true) = w8 := ⟨_, rfl⟩
      have HB8 : Hid (Below w.heap.size w w8) := Lib.hid (by rw [← hw8]; exact below_set (HBW.out _ HL4.out) _ (by show _ ≤ bs; rw [hgb]; omega) _)
      rw [hw8] at s0' s1' s2' s3' r0' r1' r2' r3' HRS8 hfz8
      rw [hw8]
      clear hset hrs8 hw8 r0 r1 r2 r3 s0 s1 s2 s3 hfz hfs c0 c1 c2 HRS HSD
      go_wp2_with fail
      have hrowZ := HRS8.out.all true 0 0 (.slice none 0 0)
      unfold SendAt at hrowZ
      (try simp only [Exit.inBlock, Exit.then])
      refine bodyPost_ret (v := .agg #[.bool true, .int .i64 0, .int .i64 0, .slice none 0 0]) (results_cell_row rfl _ _ _ _ _ _ _ rfl hrowZ Try.underlying45 rfl (by kernel_rfl)) rfl ?_
      have hgw := HGB.out
      refine ⟨none, 0, 0, by rw [HV.out], by rw [HV.out]; exact OwnsE.nil _ _, ?_⟩
      exact below_set (below_set (below_set (below_set HB8.out _ (by show _ ≤ gb + 1; omega) _) _ (by show _ ≤ gb + 1; omega) _) _ (by show _ ≤ gb + 1; omega) _) _ (by show _ ≤ gb + 1; omega) _
    · by_cases g2 : lv < next
      · obtain ⟨nx, hnx⟩ : ∃ nx, lv + 1 = nx := ⟨_, rfl⟩
        obtain ⟨pv, hpv⟩ : ∃ pv, lv = pv := ⟨_, rfl⟩
        have e1 : IntKind.i64.wrap (lv + 1) = nx := by rw [IntWalk.i64_in _ (by omega)]; exact hnx
        have e2 : IntKind.i64.wrap (nx - 1) = pv := by rw [IntWalk.i64_in _ (by omega)]; omega
        have HMIN : Hid (min (next - 1) lv = pv) := Lib.hid (by omega)
        have HNX : Hid (pv + 1 = nx) := Lib.hid (by omega)
        have HV : Hid (batchV v next = (false, pv, atV v pv, fromL v nx)) := Lib.hid (by unfold batchV; rw [if_neg HRF.out, if_neg g1, HLVE.out, HMIN.out, HNX.out])
        have HP1 : Hid (v.base ≤ pv) := Lib.hid (by have := HMIN.out; have := HNX.out; omega)
        have HP2 : Hid (pv ≤ lv) := Lib.hid (by have := HMIN.out; omega)
        obtain ⟨av, hav⟩ : ∃ av, atV v pv = av := ⟨_, rfl⟩
        have HAV := Lib.hid hav
        clear hav hpv hlv2 hnx
        go_upto_region 11 with (first
          | (go_at_call 24; refine (HRT.out w3 (HBW.out w3 (Below.refl _ _))).mono ?_; rintro e w4 ⟨rfl, hb4⟩; have HL4 := Lib.hid hb4; obtain ⟨⟨c0, c1, c2⟩, hsd, hrs⟩ := HKK.out w4 hb4; have HSD := Lib.hid hsd; have HRS := Lib.hid hrs; have hfz := frozen_of_cells hrs; have hfs := frozen_of_cells hsd; obtain ⟨s0, s1, s2, s3⟩ := hsd.cells; obtain ⟨r0, r1, r2, r3⟩ := hrs.cells; clear hb4 hsd hrs)
          | fail)
        have hset := HSD.out.set1 pv
        have hrs8 := HRS.out.far ⟨bs, 1, none⟩ (by show bs ≠ gb + 1; omega) (.int .i64 pv)
        have hsz8 : (w4.setCell ⟨bs, 1, none⟩ (.int .i64 pv)).heap.size = w4.heap.size := by simp [World.setCell]
        have hk0 : (w4.setCell ⟨bs, 1, none⟩ (.int .i64 pv)).cell? ⟨gb, 0, none⟩ = some (.int .i64 v.base) := by rw [World.cell?_setCell_other _ _ _ _ (fun h => by injection h with h1; omega)]; exact c0
        have hk1 : (w4.setCell ⟨bs, 1, none⟩ (.int .i64 pv)).cell? ⟨gb, 1, none⟩ = some (.int .i64 v.term) := by rw [World.cell?_setCell_other _ _ _ _ (fun h => by injection h with h1; omega)]; exact c1
        have hk2 : (w4.setCell ⟨bs, 1, none⟩ (.int .i64 pv)).cell? ⟨gb, 2, none⟩ = some (.slice A n c) := by rw [World.cell?_setCell_other _ _ _ _ (fun h => by injection h with h1; omega)]; exact c2
        obtain ⟨w8, hw8⟩ : ∃ w8, w4.setCell ⟨bs, 1, none⟩ (.int .i64 pv) = w8 := ⟨_, rfl⟩
        have HB8 : Hid (Below w.heap.size w w8) := Lib.hid (by rw [← hw8]; exact below_set (HBW.out _ HL4.out) _ (by show _ ≤ bs; have := HGB.out; omega) _)
        rw [hw8] at hset hrs8 hk0 hk1 hk2 hsz8
        rw [hw8]
        have HZ8 : Hid (bs < w8.heap.size) := Lib.hid (by rw [hsz8]; exact Nat.lt_of_lt_of_le HZ3.out HL4.out.size)
        have HK8 : Hid (∀ W', Below w8.heap.size w8 W' → (W'.cell? ⟨gb, 0, none⟩ = some (.int .i64 v.base) ∧ W'.cell? ⟨gb, 1, none⟩ = some (.int .i64 v.term) ∧ W'.cell? ⟨gb, 2, none⟩ = some (.slice A n c)) ∧ SendAt W' bs false pv 0 (.slice none 0 0) ∧ SendAt W' (gb + 1) false 0 0 (.slice none 0 0)) := Lib.hid (fun W' hb' => ⟨⟨(hb'.cell (World.block_lt_of_cell? _ _ hk0)).trans hk0, (hb'.cell (World.block_lt_of_cell? _ _ hk1)).trans hk1, (hb'.cell (World.block_lt_of_cell? _ _ hk2)).trans hk2⟩, hset.below hb' HZ8.out, hrs8.below hb' (by have := HZ8.out; omega)⟩)
        obtain ⟨s0', s1', s2', s3'⟩ := hset.cells
        clear hw8 r0 r1 r2 r3 s0 s1 s2 s3 hfz hfs c0 c1 c2 c0' c1' c2' HRS HSD hset hrs8 hsz8
        go_upto_region 12 with (first
          | (go_at_call 27; refine (HTO.out w8 HB8.out pv).mono ?_; rintro e w9 ⟨ra, re, rfl, hb9, _, h4⟩; obtain ⟨rfl, rfl⟩ := (h4 HRR.out).2.2 HP1.out (by rw [HLVE.out]; exact HP2.out); rw [HAV.out]; have HL9 := Lib.hid hb9; obtain ⟨⟨i0, i1, i2⟩, hsd9, hrs9⟩ := HK8.out w9 hb9; have hf9 := frozen_of_cells hsd9; obtain ⟨q0, q1, q2, q3⟩ := hsd9.cells; clear hb9 h4)
          | fail)
        have hset := hsd9.set2 av
        have hrs8 := hrs9.far ⟨bs, 2, none⟩ (by show bs ≠ gb + 1; omega) (.int .i64 av)
        have hj0 : (w9.setCell ⟨bs, 2, none⟩ (.int .i64 av)).cell? ⟨gb, 0, none⟩ = some (.int .i64 v.base) := by rw [World.cell?_setCell_other _ _ _ _ (fun h => by injection h with h1; omega)]; exact i0
        have hj1 : (w9.setCell ⟨bs, 2, none⟩ (.int .i64 av)).cell? ⟨gb, 1, none⟩ = some (.int .i64 v.term) := by rw [World.cell?_setCell_other _ _ _ _ (fun h => by injection h with h1; omega)]; exact i1
        have hj2 : (w9.setCell ⟨bs, 2, none⟩ (.int .i64 av)).cell? ⟨gb, 2, none⟩ = some (.slice A n c) := by rw [World.cell?_setCell_other _ _ _ _ (fun h => by injection h with h1; omega)]; exact i2
        have hsz9 : (w9.setCell ⟨bs, 2, none⟩ (.int .i64 av)).heap.size = w9.heap.size := by simp [World.setCell]
        obtain ⟨wa, hwa⟩ : ∃ wa, w9.setCell ⟨bs, 2, none⟩ (.int .i64 av) = wa := ⟨_, rfl⟩
        have HBA : Hid (Below w.heap.size w wa) := Lib.hid (by rw [← hwa]; exact below_set (below_step HB8.out HB8.out.size HL9.out) _ (by show _ ≤ bs; have := HGB.out; omega) _)
        rw [hwa] at hset hrs8 hj0 hj1 hj2 hsz9
        rw [hwa]
        have HZA : Hid (bs < wa.heap.size) := Lib.hid (by rw [hsz9]; exact Nat.lt_of_lt_of_le HZ8.out HL9.out.size)
        have HSA := Lib.hid hset
        have HRA := Lib.hid hrs8
        clear hwa hset hrs8 q0 q1 q2 q3 i0 i1 i2 hsd9 hrs9 hf9 s0' s1' s2' s3' hsz9 hk0 hk1 hk2
        have hne1 : gb + 1 ≠ bs := by omega
        have hne2 : bs ≠ gb + 1 := by omega
        go_wp2_with (first
          | (go_at_call 34; refine (HFR.out wa HBA.out _).mono ?_; rintro e wb ⟨A5, n5, c5, rfl, ho5, hb5⟩; have HB5 := Lib.hid (below_step HBA.out HBA.out.size hb5); have hsb := HSA.out.below hb5 HZA.out; have hrb := HRA.out.below hb5 (by have := HZA.out; omega); have hfb := frozen_of_cells hsb; have hfr := frozen_of_cells hrb; obtain ⟨s0, s1, s2, s3⟩ := hsb.cells; obtain ⟨r0, r1, r2, r3⟩ := hrb.cells; have HSB := Lib.hid hsb; have HRB := Lib.hid hrb; have HO5 := Lib.hid ho5; clear ho5 hb5 hsb hrb)
          | fail)
        have hset := HSB.out.set3 (.slice A5 n5 c5)
        have hrs8 := HRB.out.far ⟨bs, 3, none⟩ (by show bs ≠ gb + 1; omega) (.slice A5 n5 c5)
        have ho8 := HO5.out.far ⟨bs, 3, none⟩ HZA.out (.slice A5 n5 c5)
        have HBC : Hid (Below w.heap.size w (wb.setCell ⟨bs, 3, none⟩ (.slice A5 n5 c5))) := Lib.hid (below_set HB5.out _ (by show _ ≤ bs; have := HGB.out; omega) _)
        have HRC := Lib.hid hrs8
        have HOC := Lib.hid ho8
        clear hset hrs8 ho8 hj0 hj1 hj2
        have hrowZ := HRC.out.all false pv av (.slice A5 n5 c5)
        unfold SendAt at hrowZ
        (try simp only [Exit.inBlock, Exit.then])
        refine bodyPost_ret (v := .agg #[.bool false, .int .i64 pv, .int .i64 av, .slice A5 n5 c5]) (results_cell_row rfl _ _ _ _ _ _ _ rfl hrowZ Try.underlying45 rfl (by kernel_rfl)) rfl ?_
        have hgw := HGB.out
        have hza := HZA.out
        refine ⟨A5, n5, c5, by rw [HV.out, HAV.out], ?_, ?_⟩
        · rw [HV.out]
          exact ((((HOC.out.far _ (by show gb + 1 < _; omega) _).far _ (by show gb + 1 < _; omega) _).far _ (by show gb + 1 < _; omega) _).far _ (by show gb + 1 < _; omega) _).lower HBA.out.size
        · exact below_set (below_set (below_set (below_set HBC.out _ (by show _ ≤ gb + 1; omega) _) _ (by show _ ≤ gb + 1; omega) _) _ (by show _ ≤ gb + 1; omega) _) _ (by show _ ≤ gb + 1; omega) _
      · obtain ⟨nx, hnx⟩ : ∃ nx, next = nx := ⟨_, rfl⟩
        obtain ⟨pv, hpv⟩ : ∃ pv, nx - 1 = pv := ⟨_, rfl⟩
        have e2 : IntKind.i64.wrap (nx - 1) = pv := by rw [IntWalk.i64_in _ (by omega)]; exact hpv
        have HMIN : Hid (min (next - 1) lv = pv) := Lib.hid (by omega)
        have HNX : Hid (pv + 1 = nx) := Lib.hid (by omega)
        have HV : Hid (batchV v next = (false, pv, atV v pv, fromL v nx)) := Lib.hid (by unfold batchV; rw [if_neg HRF.out, if_neg g1, HLVE.out, HMIN.out, HNX.out])
        have HP1 : Hid (v.base ≤ pv) := Lib.hid (by have := HMIN.out; have := HNX.out; omega)
        have HP2 : Hid (pv ≤ lv) := Lib.hid (by have := HMIN.out; omega)
        obtain ⟨av, hav⟩ : ∃ av, atV v pv = av := ⟨_, rfl⟩
        have HAV := Lib.hid hav
        clear hav hpv hlv2
        subst hnx
        go_upto_region 11 with (first
          | (go_at_call 24; refine (HRT.out w3 (HBW.out w3 (Below.refl _ _))).mono ?_; rintro e w4 ⟨rfl, hb4⟩; have HL4 := Lib.hid hb4; obtain ⟨⟨c0, c1, c2⟩, hsd, hrs⟩ := HKK.out w4 hb4; have HSD := Lib.hid hsd; have HRS := Lib.hid hrs; have hfz := frozen_of_cells hrs; have hfs := frozen_of_cells hsd; obtain ⟨s0, s1, s2, s3⟩ := hsd.cells; obtain ⟨r0, r1, r2, r3⟩ := hrs.cells; clear hb4 hsd hrs)
          | fail)
        have hset := HSD.out.set1 pv
        have hrs8 := HRS.out.far ⟨bs, 1, none⟩ (by show bs ≠ gb + 1; omega) (.int .i64 pv)
        have hsz8 : (w4.setCell ⟨bs, 1, none⟩ (.int .i64 pv)).heap.size = w4.heap.size := by simp [World.setCell]
        have hk0 : (w4.setCell ⟨bs, 1, none⟩ (.int .i64 pv)).cell? ⟨gb, 0, none⟩ = some (.int .i64 v.base) := by rw [World.cell?_setCell_other _ _ _ _ (fun h => by injection h with h1; omega)]; exact c0
        have hk1 : (w4.setCell ⟨bs, 1, none⟩ (.int .i64 pv)).cell? ⟨gb, 1, none⟩ = some (.int .i64 v.term) := by rw [World.cell?_setCell_other _ _ _ _ (fun h => by injection h with h1; omega)]; exact c1
        have hk2 : (w4.setCell ⟨bs, 1, none⟩ (.int .i64 pv)).cell? ⟨gb, 2, none⟩ = some (.slice A n c) := by rw [World.cell?_setCell_other _ _ _ _ (fun h => by injection h with h1; omega)]; exact c2
        obtain ⟨w8, hw8⟩ : ∃ w8, w4.setCell ⟨bs, 1, none⟩ (.int .i64 pv) = w8 := ⟨_, rfl⟩
        have HB8 : Hid (Below w.heap.size w w8) := Lib.hid (by rw [← hw8]; exact below_set (HBW.out _ HL4.out) _ (by show _ ≤ bs; have := HGB.out; omega) _)
        rw [hw8] at hset hrs8 hk0 hk1 hk2 hsz8
        rw [hw8]
        have HZ8 : Hid (bs < w8.heap.size) := Lib.hid (by rw [hsz8]; exact Nat.lt_of_lt_of_le HZ3.out HL4.out.size)
        have HK8 : Hid (∀ W', Below w8.heap.size w8 W' → (W'.cell? ⟨gb, 0, none⟩ = some (.int .i64 v.base) ∧ W'.cell? ⟨gb, 1, none⟩ = some (.int .i64 v.term) ∧ W'.cell? ⟨gb, 2, none⟩ = some (.slice A n c)) ∧ SendAt W' bs false pv 0 (.slice none 0 0) ∧ SendAt W' (gb + 1) false 0 0 (.slice none 0 0)) := Lib.hid (fun W' hb' => ⟨⟨(hb'.cell (World.block_lt_of_cell? _ _ hk0)).trans hk0, (hb'.cell (World.block_lt_of_cell? _ _ hk1)).trans hk1, (hb'.cell (World.block_lt_of_cell? _ _ hk2)).trans hk2⟩, hset.below hb' HZ8.out, hrs8.below hb' (by have := HZ8.out; omega)⟩)
        obtain ⟨s0', s1', s2', s3'⟩ := hset.cells
        clear hw8 r0 r1 r2 r3 s0 s1 s2 s3 hfz hfs c0 c1 c2 c0' c1' c2' HRS HSD hset hrs8 hsz8
        go_upto_region 12 with (first
          | (go_at_call 27; refine (HTO.out w8 HB8.out pv).mono ?_; rintro e w9 ⟨ra, re, rfl, hb9, _, h4⟩; obtain ⟨rfl, rfl⟩ := (h4 HRR.out).2.2 HP1.out (by rw [HLVE.out]; exact HP2.out); rw [HAV.out]; have HL9 := Lib.hid hb9; obtain ⟨⟨i0, i1, i2⟩, hsd9, hrs9⟩ := HK8.out w9 hb9; have hf9 := frozen_of_cells hsd9; obtain ⟨q0, q1, q2, q3⟩ := hsd9.cells; clear hb9 h4)
          | fail)
        have hset := hsd9.set2 av
        have hrs8 := hrs9.far ⟨bs, 2, none⟩ (by show bs ≠ gb + 1; omega) (.int .i64 av)
        have hj0 : (w9.setCell ⟨bs, 2, none⟩ (.int .i64 av)).cell? ⟨gb, 0, none⟩ = some (.int .i64 v.base) := by rw [World.cell?_setCell_other _ _ _ _ (fun h => by injection h with h1; omega)]; exact i0
        have hj1 : (w9.setCell ⟨bs, 2, none⟩ (.int .i64 av)).cell? ⟨gb, 1, none⟩ = some (.int .i64 v.term) := by rw [World.cell?_setCell_other _ _ _ _ (fun h => by injection h with h1; omega)]; exact i1
        have hj2 : (w9.setCell ⟨bs, 2, none⟩ (.int .i64 av)).cell? ⟨gb, 2, none⟩ = some (.slice A n c) := by rw [World.cell?_setCell_other _ _ _ _ (fun h => by injection h with h1; omega)]; exact i2
        have hsz9 : (w9.setCell ⟨bs, 2, none⟩ (.int .i64 av)).heap.size = w9.heap.size := by simp [World.setCell]
        obtain ⟨wa, hwa⟩ : ∃ wa, w9.setCell ⟨bs, 2, none⟩ (.int .i64 av) = wa := ⟨_, rfl⟩
        have HBA : Hid (Below w.heap.size w wa) := Lib.hid (by rw [← hwa]; exact below_set (below_step HB8.out HB8.out.size HL9.out) _ (by show _ ≤ bs; have := HGB.out; omega) _)
        rw [hwa] at hset hrs8 hj0 hj1 hj2 hsz9
        rw [hwa]
        have HZA : Hid (bs < wa.heap.size) := Lib.hid (by rw [hsz9]; exact Nat.lt_of_lt_of_le HZ8.out HL9.out.size)
        have HSA := Lib.hid hset
        have HRA := Lib.hid hrs8
        clear hwa hset hrs8 q0 q1 q2 q3 i0 i1 i2 hsd9 hrs9 hf9 s0' s1' s2' s3' hsz9 hk0 hk1 hk2
        have hne1 : gb + 1 ≠ bs := by omega
        have hne2 : bs ≠ gb + 1 := by omega
        go_wp2_with (first
          | (go_at_call 34; refine (HFR.out wa HBA.out _).mono ?_; rintro e wb ⟨A5, n5, c5, rfl, ho5, hb5⟩; have HB5 := Lib.hid (below_step HBA.out HBA.out.size hb5); have hsb := HSA.out.below hb5 HZA.out; have hrb := HRA.out.below hb5 (by have := HZA.out; omega); have hfb := frozen_of_cells hsb; have hfr := frozen_of_cells hrb; obtain ⟨s0, s1, s2, s3⟩ := hsb.cells; obtain ⟨r0, r1, r2, r3⟩ := hrb.cells; have HSB := Lib.hid hsb; have HRB := Lib.hid hrb; have HO5 := Lib.hid ho5; clear ho5 hb5 hsb hrb)
          | fail)
        have hset := HSB.out.set3 (.slice A5 n5 c5)
        have hrs8 := HRB.out.far ⟨bs, 3, none⟩ (by show bs ≠ gb + 1; omega) (.slice A5 n5 c5)
        have ho8 := HO5.out.far ⟨bs, 3, none⟩ HZA.out (.slice A5 n5 c5)
        have HBC : Hid (Below w.heap.size w (wb.setCell ⟨bs, 3, none⟩ (.slice A5 n5 c5))) := Lib.hid (below_set HB5.out _ (by show _ ≤ bs; have := HGB.out; omega) _)
        have HRC := Lib.hid hrs8
        have HOC := Lib.hid ho8
        clear hset hrs8 ho8 hj0 hj1 hj2
        have hrowZ := HRC.out.all false pv av (.slice A5 n5 c5)
        unfold SendAt at hrowZ
        (try simp only [Exit.inBlock, Exit.then])
        refine bodyPost_ret (v := .agg #[.bool false, .int .i64 pv, .int .i64 av, .slice A5 n5 c5]) (results_cell_row rfl _ _ _ _ _ _ _ rfl hrowZ Try.underlying45 rfl (by kernel_rfl)) rfl ?_
        have hgw := HGB.out
        have hza := HZA.out
        refine ⟨A5, n5, c5, by rw [HV.out, HAV.out], ?_, ?_⟩
        · rw [HV.out]
          exact ((((HOC.out.far _ (by show gb + 1 < _; omega) _).far _ (by show gb + 1 < _; omega) _).far _ (by show gb + 1 < _; omega) _).far _ (by show gb + 1 < _; omega) _).lower HBA.out.size
        · exact below_set (below_set (below_set (below_set HBC.out _ (by show _ ≤ gb + 1; omega) _) _ (by show _ ≤ gb + 1; omega) _) _ (by show _ ≤ gb + 1; omega) _) _ (by show _ ≤ gb + 1; omega) _
end Go.Proofs.Ytlcnpfiiijehmaa
