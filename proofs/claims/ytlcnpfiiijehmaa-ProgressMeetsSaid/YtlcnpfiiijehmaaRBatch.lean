/-
  The reference's Batch.
-/
import Derived.Test.YtlcnpfiiijehmaaRFrom
set_option linter.unusedVariables false
set_option linter.unusedSimpArgs false
namespace Go.Proofs.Ytlcnpfiiijehmaa
open Go.RowKit

/-- What a peer is sent. -/
noncomputable def batchV (v : Vw) (next : Int) : Bool × Int × Int × List Ent :=
  if rightV v = false then (false, 0, 0, []) else if next ≤ v.base then (true, 0, 0, []) else (false, min (next - 1) (lastV v), atV v (min (next - 1) (lastV v)), fromL v (min (next - 1) (lastV v) + 1))
def sendV (ty : TypeId) (b : Bool) (p t : Int) (d : Value) : Value := .agg #[.bool b, .int .i64 p, .int .i64 t, d]
def RetSend (v : Vw) (next : Int) (w : World) (e : Ending) (w' : World) : Prop := ∃ A n c, e = .returned (.agg #[.bool (batchV v next).1, .int .i64 (batchV v next).2.1, .int .i64 (batchV v next).2.2.1, .slice A n c]) ∧ (batchV v next).2.2.2.length = n ∧ n ≤ c ∧ SeenE w' A (batchV v next).2.2.2 ∧ Below w.heap.size w w'
abbrev TSR : TypeId := 47
theorem SeenE.set {W : World} {A : Option Addr} {es : List Ent} {b : Nat} (h : SeenE W A es) : ∀ W', (∀ p v, W.cell? p = some v → W'.cell? p = some v) → SeenE W' A es := by
  obtain ⟨cells, h1, h2⟩ := h
  intro W' hk
  have key : ∀ {X : Option Addr} {vs : List Value}, Sees W X vs → Sees W' X vs := fun hs j v hj => by
    obtain ⟨ad, e, hc⟩ := hs j v hj
    exact ⟨ad, e, hk _ _ hc⟩
  exact ⟨cells, key h1, h2.imp fun j x cs _ ⟨A1, c1, e, h3, h4⟩ => ⟨A1, c1, e, h3, key h4⟩⟩
set_option maxRecDepth 16384 in
set_option maxHeartbeats 4000000 in
theorem rbatch_any (v : Vw) (next : Int) (A : Option Addr) (n c : Nat) (w : World) (hx : IntOk next) (hn : v.l.length = n) (hn2 : n * 48 ≤ 140737488351232) (h : SeenE w A v.l) (hs : SmallE v.l) :
    Calls Try.prog 18 #[v.val (.slice A n c), .int .i64 next] w (RetSend v next w) := by
  unfold IntOk at hx
  obtain ⟨W, hW⟩ : ∃ W, (w.alloc (.cells #[.int .i64 v.base, .int .i64 v.term, .slice A n c] 24)).alloc (.cells #[.bool false, .int .i64 0, .int .i64 0, .slice none 0 0] TSR) = W := ⟨_, rfl⟩
  have hb : Below w.heap.size w W := by rw [← hW]; exact ((Below.refl _ _).alloc (Nat.le_refl _) _).alloc (by simp) _
  have x2 : W.heap[w.heap.size + 1]? = some (.cells #[.bool false, .int .i64 0, .int .i64 0, .slice none 0 0] TSR (0, 0)) := by
    rw [← hW]
    have := heap_alloc_new (w.alloc (.cells #[.int .i64 v.base, .int .i64 v.term, .slice A n c] 24)) (.cells #[.bool false, .int .i64 0, .int .i64 0, .slice none 0 0] TSR)
    rw [World.size_alloc] at this
    exact this
  have x1 : W.heap[w.heap.size]? = some (.cells #[.int .i64 v.base, .int .i64 v.term, .slice A n c] 24 (0, 0)) := by
    rw [← hW]
    exact (Below.heap_alloc _ _ _ (by simp)).trans (heap_alloc_new w _)
  have HRT := Lib.hid (fun W' (hb' : Below w.heap.size w W') => rrightv_any v A n c W' hn (by omega) (h.below hb') hs)
  obtain ⟨r, hr⟩ : ∃ r, rightV v = r := ⟨_, rfl⟩
  rw [hr] at HRT
  have HLS := Lib.hid (fun W' (hb' : Below w.heap.size w W') => rlastof_any v A n c W' hn (by omega) (h.below hb') hs)
  have HTO := Lib.hid (fun W' (hb' : Below w.heap.size w W') i => rtermof_any v i A n c W' hn (by omega) (h.below hb') hs)
  have HFR := Lib.hid (fun W' (hb' : Below w.heap.size w W') i => rfrom_any v i A n c w W' hb' hn hn2 h hs)
  have HW := Lib.hid hW
  have HB := Lib.hid hb
  have HRR := Lib.hid hr
  obtain ⟨gb, hgb⟩ : ∃ gb, w.heap.size = gb := ⟨_, rfl⟩
  rw [hgb] at x1 x2
  have HGB := Lib.hid hgb
  have HN := Lib.hid hn
  have HSZ : Hid (gb + 1 < W.heap.size) := Lib.hid (Array.getElem?_eq_some_iff.1 x2).1
  have HK : Hid (∀ W', Below W.heap.size W W' → W'.cell? ⟨gb, 0, none⟩ = some (.int .i64 v.base) ∧ W'.cell? ⟨gb, 1, none⟩ = some (.int .i64 v.term) ∧ W'.cell? ⟨gb, 2, none⟩ = some (.slice A n c)) := Lib.hid (fun W' hb' => by
    have h9 := (hb'.block gb (Array.getElem?_eq_some_iff.1 x1).1).trans x1
    exact ⟨by rw [cell_of_row _ _ 0 _ _ _ h9]; rfl, by rw [cell_of_row _ _ 1 _ _ _ h9]; rfl, by rw [cell_of_row _ _ 2 _ _ _ h9]; rfl⟩)
  have HD : Hid (∀ W', Below W.heap.size W W' → W'.heap[gb + 1]? = some (.cells #[.bool false, .int .i64 0, .int .i64 0, .slice none 0 0] TSR (0, 0))) := Lib.hid (fun W' hb' => (hb'.block (gb + 1) (Array.getElem?_eq_some_iff.1 x2).1).trans x2)
  unfold Vw.val at HRT HLS HTO HFR ⊢
  obtain ⟨k0, k1, k2⟩ := HK.out W (Below.refl _ _)
  clear hW hb h hn hs hr hgb x1 x2
  go_enter Try.func18, Try.ntmps18
  go_upto_region 1 with fail
  rw [HW.out]
  try rw [HGB.out]
  cases r with
  | false =>
    have HV : Hid (batchV v next = (false, 0, 0, [])) := Lib.hid (by unfold batchV; rw [if_pos HRR.out])
    go_wp2_with (first
      | (go_at_call 29; refine (HRT.out W HB.out).mono ?_; rintro e w2 ⟨rfl, hb2⟩; have HL := Lib.hid hb2; obtain ⟨c0, c1, c2⟩ := HK.out w2 hb2; have hrow := HD.out w2 HL.out; have d0 := cell_of_row w2 (gb + 1) 0 _ _ _ hrow; have d1 := cell_of_row w2 (gb + 1) 1 _ _ _ hrow; have d2 := cell_of_row w2 (gb + 1) 2 _ _ _ hrow; have d3 := cell_of_row w2 (gb + 1) 3 _ _ _ hrow; have df := frozen_of_cells hrow; simp at d0 d1 d2 d3; have HROW := Lib.hid hrow; clear hrow; clear hb2)
      | fail)
    have hrowZ : ((((w2.setCell ⟨gb + 1, 0, none⟩ (.bool false)).setCell ⟨gb + 1, 1, none⟩ (.int .i64 0)).setCell ⟨gb + 1, 2, none⟩ (.int .i64 0)).setCell ⟨gb + 1, 3, none⟩ (.slice none 0 0)).heap[gb + 1]? = some (.cells #[.bool false, .int .i64 0, .int .i64 0, .slice none 0 0] TSR (0, 0)) := by simp [World.setCell, Array.getElem?_modify, HROW.out]
    refine bodyPost_ret (v := .agg #[.bool false, .int .i64 0, .int .i64 0, .slice none 0 0]) (results_cell_row rfl _ _ _ _ _ _ _ rfl hrowZ Try.underlying47 rfl (by kernel_rfl)) rfl ?_
    have hgw := HGB.out
    have hZ : Below w.heap.size w ((((w2.setCell ⟨gb + 1, 0, none⟩ (.bool false)).setCell ⟨gb + 1, 1, none⟩ (.int .i64 0)).setCell ⟨gb + 1, 2, none⟩ (.int .i64 0)).setCell ⟨gb + 1, 3, none⟩ (.slice none 0 0)) := ((((below_step HB.out HB.out.size HL.out).setCell (by show _ ≤ gb + 1; omega) _).setCell (by show _ ≤ gb + 1; omega) _).setCell (by show _ ≤ gb + 1; omega) _).setCell (by show _ ≤ gb + 1; omega) _
    exact ⟨none, 0, 0, by rw [HV.out], by rw [HV.out]; rfl, Nat.le_refl _, by rw [HV.out]; exact SeenE.nil _ _, hZ⟩
  | true =>
    obtain ⟨b1, b2, t1, t2, n1, hrow⟩ := rightV_iff.1 HRR.out
    rw [HN.out] at n1
    have HLV : Hid (lastV v = v.base + (n : Int)) := Lib.hid (by unfold lastV; rw [HN.out])
    have HRF : Hid (¬ rightV v = false) := Lib.hid (by rw [HRR.out]; decide)
    clear t1 t2 hrow
    by_cases g1 : next ≤ v.base
    · have HV : Hid (batchV v next = (true, 0, 0, [])) := Lib.hid (by unfold batchV; rw [if_neg HRF.out, if_pos g1])
      go_wp2_with (first
        | (go_at_call 29; refine (HRT.out W HB.out).mono ?_; rintro e w2 ⟨rfl, hb2⟩; have HL := Lib.hid hb2; obtain ⟨c0, c1, c2⟩ := HK.out w2 hb2; have hrow := HD.out w2 HL.out; have d0 := cell_of_row w2 (gb + 1) 0 _ _ _ hrow; have d1 := cell_of_row w2 (gb + 1) 1 _ _ _ hrow; have d2 := cell_of_row w2 (gb + 1) 2 _ _ _ hrow; have d3 := cell_of_row w2 (gb + 1) 3 _ _ _ hrow; have df := frozen_of_cells hrow; simp at d0 d1 d2 d3; have HROW := Lib.hid hrow; clear hrow; clear hb2)
        | fail)
      have hrowZ : ((((w2.setCell ⟨gb + 1, 0, none⟩ (.bool true)).setCell ⟨gb + 1, 1, none⟩ (.int .i64 0)).setCell ⟨gb + 1, 2, none⟩ (.int .i64 0)).setCell ⟨gb + 1, 3, none⟩ (.slice none 0 0)).heap[gb + 1]? = some (.cells #[.bool true, .int .i64 0, .int .i64 0, .slice none 0 0] TSR (0, 0)) := by simp [World.setCell, Array.getElem?_modify, HROW.out]
      refine bodyPost_ret (v := .agg #[.bool true, .int .i64 0, .int .i64 0, .slice none 0 0]) (results_cell_row rfl _ _ _ _ _ _ _ rfl hrowZ Try.underlying47 rfl (by kernel_rfl)) rfl ?_
      have hgw := HGB.out
      have hZ : Below w.heap.size w ((((w2.setCell ⟨gb + 1, 0, none⟩ (.bool true)).setCell ⟨gb + 1, 1, none⟩ (.int .i64 0)).setCell ⟨gb + 1, 2, none⟩ (.int .i64 0)).setCell ⟨gb + 1, 3, none⟩ (.slice none 0 0)) := ((((below_step HB.out HB.out.size HL.out).setCell (by show _ ≤ gb + 1; omega) _).setCell (by show _ ≤ gb + 1; omega) _).setCell (by show _ ≤ gb + 1; omega) _).setCell (by show _ ≤ gb + 1; omega) _
      exact ⟨none, 0, 0, by rw [HV.out], by rw [HV.out]; rfl, Nat.le_refl _, by rw [HV.out]; exact SeenE.nil _ _, hZ⟩
    · obtain ⟨lv, hlv⟩ : ∃ lv, lastV v = lv := ⟨_, rfl⟩
      obtain ⟨pv, hpv⟩ : ∃ pv, min (next - 1) lv = pv := ⟨_, rfl⟩
      have hlv2 : lv = v.base + (n : Int) := by rw [← hlv]; exact HLV.out
      have hp1 : v.base ≤ pv := by omega
      have hp2 : pv ≤ lv := by omega
      have e1 : IntKind.i64.wrap (next - 1) = next - 1 := IntWalk.i64_in _ (by omega)
      have e2 : IntKind.i64.wrap (pv + 1) = pv + 1 := IntWalk.i64_in _ (by omega)
      have HV : Hid (batchV v next = (false, pv, atV v pv, fromL v (pv + 1))) := Lib.hid (by unfold batchV; rw [if_neg HRF.out, if_neg g1, hlv, hpv])
      obtain ⟨av, hav⟩ : ∃ av, atV v pv = av := ⟨_, rfl⟩
      have HAV := Lib.hid hav
      have HLVE := Lib.hid hlv
      have HPV := Lib.hid hpv
      clear hlv hav hlv2
      go_upto_region 7 with (first
        | (go_at_call 29; refine (HRT.out W HB.out).mono ?_; rintro e w2 ⟨rfl, hb2⟩; have H2 := Lib.hid hb2; obtain ⟨c0, c1, c2⟩ := HK.out w2 hb2; clear hb2)
        | (go_at_call 28; refine (HLS.out w2 (below_step HB.out HB.out.size H2.out)).mono ?_; rintro e w3 ⟨rfl, hb3⟩; rw [HRR.out, if_pos rfl, if_pos rfl, HLVE.out]; have H3 := Lib.hid (below_step H2.out H2.out.size hb3); obtain ⟨i0, i1, i2⟩ := HK.out w3 H3.out; clear hb3)
        | fail)
      rw [show (if lv < next - 1 then lv else next - 1) = pv from by rw [← hpv]; split <;> omega]
      clear hpv k0 k1 k2 c0 c1 c2
      go_wp2_with (first
        | (go_at_call 14; refine (HTO.out w3 (below_step HB.out HB.out.size H3.out) pv).mono ?_; rintro e w4 ⟨ra, re, rfl, hb4, _, h4⟩; obtain ⟨rfl, rfl⟩ := (h4 HRR.out).2.2 hp1 (by rw [HLVE.out]; exact hp2); rw [HAV.out]; have H4 := Lib.hid (below_step H3.out H3.out.size hb4); obtain ⟨j0, j1, j2⟩ := HK.out w4 H4.out; clear hb4 h4)
        | (go_at_call 35; refine (HFR.out w4 (below_step HB.out HB.out.size H4.out) (pv + 1)).mono ?_; rintro e w5 ⟨A5, n5, c5, rfl, hn5, hc5, hs5, hb5⟩; have HL := Lib.hid (below_step H4.out H4.out.size hb5); have HN5 := Lib.hid hn5; have HC5 := Lib.hid hc5; have HS5 := Lib.hid hs5; have hrow := HD.out w5 HL.out; have d0 := cell_of_row w5 (gb + 1) 0 _ _ _ hrow; have d1 := cell_of_row w5 (gb + 1) 1 _ _ _ hrow; have d2 := cell_of_row w5 (gb + 1) 2 _ _ _ hrow; have d3 := cell_of_row w5 (gb + 1) 3 _ _ _ hrow; have df := frozen_of_cells hrow; simp at d0 d1 d2 d3; have HROW := Lib.hid hrow; clear hrow; clear hb5 hn5 hc5 hs5)
        | fail)
      have hrowZ : ((((w5.setCell ⟨gb + 1, 0, none⟩ (.bool false)).setCell ⟨gb + 1, 1, none⟩ (.int .i64 pv)).setCell ⟨gb + 1, 2, none⟩ (.int .i64 av)).setCell ⟨gb + 1, 3, none⟩ (.slice A5 n5 c5)).heap[gb + 1]? = some (.cells #[.bool false, .int .i64 pv, .int .i64 av, .slice A5 n5 c5] TSR (0, 0)) := by simp [World.setCell, Array.getElem?_modify, HROW.out]
      refine bodyPost_ret (v := .agg #[.bool false, .int .i64 pv, .int .i64 av, .slice A5 n5 c5]) (results_cell_row rfl _ _ _ _ _ _ _ rfl hrowZ Try.underlying47 rfl (by kernel_rfl)) rfl ?_
      have hgw := HGB.out
      have hZ : Below w.heap.size w ((((w5.setCell ⟨gb + 1, 0, none⟩ (.bool false)).setCell ⟨gb + 1, 1, none⟩ (.int .i64 pv)).setCell ⟨gb + 1, 2, none⟩ (.int .i64 av)).setCell ⟨gb + 1, 3, none⟩ (.slice A5 n5 c5)) := ((((below_step HB.out HB.out.size HL.out).setCell (by show _ ≤ gb + 1; omega) _).setCell (by show _ ≤ gb + 1; omega) _).setCell (by show _ ≤ gb + 1; omega) _).setCell (by show _ ≤ gb + 1; omega) _
      refine ⟨A5, n5, c5, by rw [HV.out, HAV.out], by rw [HV.out]; exact HN5.out, HC5.out, ?_, hZ⟩
      rw [HV.out]
      have hl5 : gb + 1 < w4.heap.size := Nat.lt_of_lt_of_le HSZ.out H4.out.size
      have o0 := HS5.out.far ⟨gb + 1, 0, none⟩ hl5 (.bool false)
      have o1 := o0.far ⟨gb + 1, 1, none⟩ hl5 (.int .i64 pv)
      have o2 := o1.far ⟨gb + 1, 2, none⟩ hl5 (.int .i64 av)
      have o3 := o2.far ⟨gb + 1, 3, none⟩ hl5 (.slice A5 n5 c5)
      exact o3.see hZ
end Go.Proofs.Ytlcnpfiiijehmaa
