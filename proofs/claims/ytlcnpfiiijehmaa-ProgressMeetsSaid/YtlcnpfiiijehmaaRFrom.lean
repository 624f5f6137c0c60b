/-
  The reference's From (at most eight).
-/
import Derived.Test.YtlcnpfiiijehmaaRView
import Derived.Test.YtlcnpfiiijehmaaEOwn2
set_option linter.unusedVariables false
set_option linter.unusedSimpArgs false
namespace Go.Proofs.Ytlcnpfiiijehmaa
open Go.RowKit

noncomputable def fromL (v : Vw) (i : Int) : List Ent := if rightV v then (v.l.filter fun x => decide (i ≤ x.index)).take 8 else []
theorem from_full {l : List Ent} {i : Int} {k : Nat} (h : ((l.take k).filter fun x => decide (i ≤ x.index)).length = 8) : (l.filter fun x => decide (i ≤ x.index)).take 8 = (l.take k).filter fun x => decide (i ≤ x.index) := by
  have e : l.filter (fun x => decide (i ≤ x.index)) = (l.take k).filter (fun x => decide (i ≤ x.index)) ++ (l.drop k).filter (fun x => decide (i ≤ x.index)) := by
    rw [← List.filter_append, List.take_append_drop]
  rw [e, ← h, List.take_left']
  rfl
theorem from_step {l : List Ent} {i : Int} {k : Nat} {x : Ent} (h : l[k]? = some x) : ((l.take (k + 1)).filter fun x => decide (i ≤ x.index)) = ((l.take k).filter fun x => decide (i ≤ x.index)) ++ (if i ≤ x.index then [x] else []) := by
  obtain ⟨hk, rfl⟩ := List.getElem?_eq_some_iff.1 h
  rw [List.take_succ_eq_append_getElem hk, List.filter_append]
  congr 1
  by_cases h9 : i ≤ l[k].index <;> simp [h9]
/-- A row of its own of entries whose data are seen in an older world. -/
def OwnR (w0 : World) (base : Nat) (v : Value) (n : Nat) (es : List Ent) (W : World) : Prop := ∃ cells, W.ownsRow base 54 4 v n cells ∧ Recs (fun _ x cs => EntR w0 x cs) 4 W es cells
theorem OwnR.see {w0 W : World} {base : Nat} {A : Option Addr} {n c : Nat} {es : List Ent} (h : OwnR w0 base (.slice A n c) n es W) (hb : Below w0.heap.size w0 W) : SeenE W A es := by
  obtain ⟨cells, h1, h2⟩ := h
  exact ⟨cells, (sees_own' h1).2.2.2, h2.imp fun j x cs _ hl => hl.below hb⟩
theorem OwnR.far {w0 W : World} {base n : Nat} {v : Value} {es : List Ent} (h : OwnR w0 base v n es W) (p : Addr) (hp : p.block < base) (u : Value) : OwnR w0 base v n es (W.setCell p u) := by
  obtain ⟨cells, h1, h2⟩ := h
  exact ⟨cells, ownsRow_setCell_below h1 hp _, h2.imp fun j x cs _ hl => hl⟩
theorem OwnR.below {w0 W W' : World} {base n : Nat} {v : Value} {es : List Ent} (h : OwnR w0 base v n es W) (hb : Below W.heap.size W W') : OwnR w0 base v n es W' := by
  obtain ⟨cells, h1, h2⟩ := h
  exact ⟨cells, own_keep h1 hb, h2.imp fun j x cs _ hl => hl⟩
theorem OwnR.lower {w0 W : World} {base base' n : Nat} {v : Value} {es : List Ent} (h : OwnR w0 base v n es W) (hle : base' ≤ base) : OwnR w0 base' v n es W := by
  obtain ⟨cells, h1, h2⟩ := h
  exact ⟨cells, own_lower h1 hle, h2⟩
def RetFrom (v : Vw) (i : Int) (w0 w : World) (e : Ending) (w' : World) : Prop := ∃ A n c, e = .returned (.slice A n c) ∧ (fromL v i).length = n ∧ n ≤ c ∧ OwnR w0 w.heap.size (.slice A n c) n (fromL v i) w' ∧ Below w.heap.size w w'
set_option maxRecDepth 16384 in
set_option maxHeartbeats 4000000 in
theorem rfrom_any (v : Vw) (i : Int) (A : Option Addr) (n c : Nat) (w0 w : World) (hw0 : Below w0.heap.size w0 w) (hn : v.l.length = n) (hn2 : n * 48 ≤ 140737488351232) (h0 : SeenE w0 A v.l) (hs : SmallE v.l) :
    Calls Try.prog 35 #[v.val (.slice A n c), .int .i64 i, .int .i64 8] w (RetFrom v i w0 w) := by
  obtain ⟨W, hW⟩ : ∃ W, w.alloc (.cells #[.int .i64 v.base, .int .i64 v.term, .slice A n c] 24) = W := ⟨_, rfl⟩
  have h := h0.below hw0
  have hb : Below w.heap.size w W := by rw [← hW]; exact (Below.refl _ _).alloc (Nat.le_refl _) _
  have HB0 := Lib.hid (below_step hw0 hw0.size hb)
  have k0 : W.cell? ⟨w.heap.size, 0, none⟩ = some (.int .i64 v.base) := by rw [← hW]; simp
  have k1 : W.cell? ⟨w.heap.size, 1, none⟩ = some (.int .i64 v.term) := by rw [← hW]; simp
  have k2 : W.cell? ⟨w.heap.size, 2, none⟩ = some (.slice A n c) := by rw [← hW]; simp
  have HRT := Lib.hid (fun W' (hb' : Below w.heap.size w W') => rrightv_any v A n c W' hn (by omega) (h.below hb') hs)
  obtain ⟨r, hr⟩ : ∃ r, rightV v = r := ⟨_, rfl⟩
  rw [hr] at HRT
  have HW := Lib.hid hW
  have HB := Lib.hid hb
  have HRR := Lib.hid hr
  obtain ⟨gb, hgb⟩ : ∃ gb, w.heap.size = gb := ⟨_, rfl⟩
  rw [hgb] at k0 k1 k2
  have HGB := Lib.hid hgb
  have H := Lib.hid h0
  have HN := Lib.hid hn
  have HS := Lib.hid hs
  have HK : Hid (∀ W', Below W.heap.size W W' → W'.cell? ⟨gb, 0, none⟩ = some (.int .i64 v.base) ∧ W'.cell? ⟨gb, 1, none⟩ = some (.int .i64 v.term) ∧ W'.cell? ⟨gb, 2, none⟩ = some (.slice A n c)) := Lib.hid (fun W' hb' => ⟨(hb'.cell (World.block_lt_of_cell? _ _ k0)).trans k0, (hb'.cell (World.block_lt_of_cell? _ _ k1)).trans k1, (hb'.cell (World.block_lt_of_cell? _ _ k2)).trans k2⟩)
  unfold Vw.val at HRT ⊢
  have HST : Hid (∃ (k q cp : Nat) (B : Option Addr) (L : List Ent), Value.int .i64 0 = .int .i64 (k : Int) ∧ Value.slice none 0 0 = .slice B q cp ∧ k ≤ n ∧ L = (v.l.take k).filter (fun x => decide (i ≤ x.index)) ∧ L.length = q ∧ q ≤ 8 ∧ q ≤ k ∧ (r = true ∨ k = 0) ∧ OwnR w0 W.heap.size (.slice B q cp) q L W ∧ Below W.heap.size W W) := Lib.hid ⟨0, 0, 0, none, [], rfl, rfl, Nat.zero_le _, rfl, rfl, Nat.zero_le _, Nat.le_refl _, .inr rfl, ⟨[], ⟨rfl, .inl ⟨rfl, rfl⟩⟩, Recs.nil⟩, Below.refl _ _⟩
  clear hW hb h h0 hw0 hn hs hr hgb k0 k1 k2
  go_enter Try.func35, Try.ntmps35
  go_upto_region 1 with fail
  rw [HW.out]
  try rw [HGB.out]
  go_wp2_with fail
  go_loopw [7, 8] (fun s7 s8 wr => ∃ (k q cp : Nat) (B : Option Addr) (L : List Ent), s8 = .int .i64 (k : Int) ∧ s7 = .slice B q cp ∧ k ≤ n ∧ L = (v.l.take k).filter (fun x => decide (i ≤ x.index)) ∧ L.length = q ∧ q ≤ 8 ∧ q ≤ k ∧ (r = true ∨ k = 0) ∧ OwnR w0 W.heap.size (.slice B q cp) q L wr ∧ Below W.heap.size W wr) (fun _ s8 _ => n - (intOf s8).toNat)
  case atStart => exact HST.out
  case round =>
    obtain ⟨k, q, cp, B, L, rfl, rfl, hk, hL, hq, hq8, hqk, hrk, hown, hb⟩ := hrel
    have HRK := Lib.hid hrk
    have HL := Lib.hid hL
    have HQ := Lib.hid hq
    have HB1 := Lib.hid hb
    have HWR := Lib.hid (below_step HB.out HB.out.size hb)
    have HOWN := Lib.hid hown
    obtain ⟨c0, c1, c2⟩ := HK.out wr hb
    clear HST hL hq hb hown hrk
    have HSEE := Lib.hid (HOWN.out.see (below_step HB0.out HB0.out.size HB1.out))
    have HCAP : Hid (q ≤ cp) := Lib.hid (by obtain ⟨cells, h1, _⟩ := HOWN.out; exact (sees_own' h1).2.1)
    by_cases hlt : k < n
    · have hki : (k : Int) < (n : Int) := by omega
      cases r with
      | false =>
        have HF : Hid (fromL v i = []) := Lib.hid (by unfold fromL; rw [HRR.out]; rfl)
        have HL0 : Hid (L = []) := Lib.hid (HRK.out.elim (fun h => by cases h) (fun h => by rw [HL.out, h]; rfl))
        have HQ0 : Hid (q = 0) := Lib.hid (by rcases HRK.out with h | h; · cases h
                                              · omega)
        go_wp2_with (first
          | (go_at_call 29; refine (HRT.out wr HWR.out).mono ?_; rintro e w2 ⟨rfl, hb2⟩; have HB2 := Lib.hid (below_step HB1.out HB1.out.size hb2); have HBX := Lib.hid hb2; obtain ⟨d0, d1, d2⟩ := HK.out w2 HB2.out; clear hb2)
          | fail)
        go_ret
        refine ⟨B, q, cp, rfl, by rw [HF.out, HQ0.out]; rfl, HCAP.out, by rw [HF.out, ← HL0.out]; exact (HOWN.out.below HBX.out).lower HB.out.size, below_step HB.out HB.out.size HB2.out⟩
      | true =>
        by_cases h8 : q < 8
        · have h8i : (q : Int) < 8 := by omega
          have hkl : k < v.l.length := by rw [HN.out]; exact hlt
          obtain ⟨x, hx⟩ : ∃ x, v.l[k] = x := ⟨_, rfl⟩
          have hget : v.l[k]? = some x := by rw [List.getElem?_eq_getElem hkl, hx]
          have HSTEP := Lib.hid (from_step (i := i) hget)
          obtain ⟨ad, A1, c1', rfl, hcs, hc1, hsd⟩ := H.out.at hget
          obtain ⟨p, hp⟩ : ∃ p, x.data.length = p := ⟨_, rfl⟩
          rw [hp] at hcs hc1
          have HP := Lib.hid hp
          have HXR : Hid (EntR w0 x (x.cells (.slice A1 p c1'))) := Lib.hid ⟨A1, c1', by rw [hp], by rw [hp]; exact hc1, hsd⟩
          have HCS : Hid (∀ W', Below W.heap.size W W' → ∀ j u, (x.cells (.slice A1 p c1'))[j]? = some u → W'.cell? ((ad.add (k * 4)).add j) = some u) := Lib.hid (fun W' hb' j u hj => ((below_step HB0.out HB0.out.size hb').cell (World.block_lt_of_cell? _ _ (hcs j u hj))).trans (hcs j u hj))
          have HA1 : Hid (∀ W', Below W.heap.size W W' → W'.cell? ⟨(ad.add (k * 4)).block, (ad.add (k * 4)).off + 1, none⟩ = some (.int .i64 x.index)) := Lib.hid (fun W' hb' => by
            have a1 := hcs 1 _ rfl
            rw [add_pos _ 1 (by decide)] at a1
            exact ((below_step HB0.out HB0.out.size hb').cell (World.block_lt_of_cell? _ _ a1)).trans a1)
          obtain ⟨xi, hxi⟩ : ∃ xi, x.index = xi := ⟨_, rfl⟩
          rw [hxi] at HA1
          have HXI := Lib.hid hxi
          obtain ⟨cells, ho1, hr1⟩ := HOWN.out
          have HO1 := Lib.hid ho1
          have HR1 := Lib.hid hr1
          clear hcs hx hget hkl hp hsd ho1 hr1 hxi
          by_cases g : i ≤ xi
          · have HNX : Hid (L ++ [x] = (v.l.take (k + 1)).filter (fun x => decide (i ≤ x.index))) := Lib.hid (by rw [HSTEP.out, HXI.out, if_pos g, ← HL.out])
            go_wp2_with (first
              | (go_at_call 29; refine (HRT.out wr HWR.out).mono ?_; rintro e w2 ⟨rfl, hb2⟩; have HB2 := Lib.hid (below_step HB1.out HB1.out.size hb2); have HBX := Lib.hid hb2; obtain ⟨d0, d1, d2⟩ := HK.out w2 HB2.out; have a1 := HA1.out w2 HB2.out; have HC2 := Lib.hid (HCS.out w2 HB2.out); clear hb2)
              | (refine wpList_load_far rfl 54 _ rfl (ad.add (k * 4)) rfl (x.cells (.slice A1 p c1')) _ HC2.out Try.underlying54 rfl (by kernel_rfl) ?_; rw [show (x.cells (.slice A1 p c1')).toArray = #[.int .i64 x.term, .int .i64 x.index, .int .i64 x.kind, .slice A1 p c1'] from rfl, HXI.out])
              | (at_builtin; refine wpList_append_sees rfl (.tmp 34) (.tmp 40) 22 rfl W.heap.size 54 (.agg zeros4) 4 48 Try.underlying22 infoE rfl (by decide) (.slice B q cp) q cells rfl (own_alloc' (own_keep HO1.out HBX.out) _) (some ⟨w2.heap.size, 0, none⟩) 1 1 (x.cells (.slice A1 p c1')) rfl rfl (by have h9 := sees_new w2 #[.int .i64 x.term, .int .i64 xi, .int .i64 x.kind, .slice A1 p c1'] 54; rw [← HXI.out] at h9; rw [← HXI.out]; exact h9) (cells_ones x A1 p c1') (by simp only [maxLen]; omega) (by omega) (by have := HB2.out.size; simp; omega) ?_; intro A3 c3 w3 hown3 hg3 hat3; have HOWN3 := Lib.hid hown3; have HG3 := Lib.hid hg3; clear hown3 hg3 hat3)
              | fail)
            go_roundw
            case rel =>
              have hal : Below w2.heap.size w2 (w2.alloc (.cells #[.int .i64 x.term, .int .i64 xi, .int .i64 x.kind, .slice A1 p c1'] 54)) := (Below.refl _ _).alloc (Nat.le_refl _) _
              have hb4 : Below W.heap.size W (w2.alloc (.cells #[.int .i64 x.term, .int .i64 xi, .int .i64 x.kind, .slice A1 p c1'] 54)) := below_step HB2.out HB2.out.size hal
              have ho4 := own_keep (own_keep HO1.out HBX.out) hal
              refine ⟨k + 1, q + 1, c3, A3, L ++ [x], by go_num, rfl, hlt, HNX.out, by rw [List.length_append, HQ.out]; rfl, h8, by omega, by simp, ⟨_, HOWN3.out, ?_⟩, below_grown_own hb4 hb4.size ho4 (Nat.le_refl _) HG3.out⟩
              exact (HR1.out.imp fun j y cs _ hl => hl).snoc rfl HXR.out
            case measure => simp [intOf] <;> omega
          · have HNX : Hid (L = (v.l.take (k + 1)).filter (fun x => decide (i ≤ x.index))) := Lib.hid (by rw [HSTEP.out, HXI.out, if_neg g, ← HL.out, List.append_nil])
            go_wp2_with (first
              | (go_at_call 29; refine (HRT.out wr HWR.out).mono ?_; rintro e w2 ⟨rfl, hb2⟩; have HB2 := Lib.hid (below_step HB1.out HB1.out.size hb2); have HBX := Lib.hid hb2; obtain ⟨d0, d1, d2⟩ := HK.out w2 HB2.out; have a1 := HA1.out w2 HB2.out; clear hb2)
              | fail)
            go_roundw
            case rel => exact ⟨k + 1, q, cp, B, L, by go_num, rfl, hlt, HNX.out, HQ.out, hq8, by omega, by simp, ⟨cells, own_keep HO1.out HBX.out, HR1.out.imp fun j y cs _ hl => hl⟩, HB2.out⟩
            case measure => simp [intOf] <;> omega
        · have h8i : ¬ (q : Int) < 8 := by omega
          have HF : Hid (fromL v i = L) := Lib.hid (by unfold fromL; rw [HRR.out, if_pos rfl, HL.out]; exact from_full (by rw [← HL.out, HQ.out]; omega))
          go_wp2_with (first
            | (go_at_call 29; refine (HRT.out wr HWR.out).mono ?_; rintro e w2 ⟨rfl, hb2⟩; have HB2 := Lib.hid (below_step HB1.out HB1.out.size hb2); have HBX := Lib.hid hb2; obtain ⟨d0, d1, d2⟩ := HK.out w2 HB2.out; clear hb2)
            | fail)
          go_ret
          refine ⟨B, q, cp, rfl, by rw [HF.out]; exact HQ.out, HCAP.out, by rw [HF.out]; exact (HOWN.out.below HBX.out).lower HB.out.size, below_step HB.out HB.out.size HB2.out⟩
    · obtain rfl : k = n := by omega
      have hki : ¬ (k : Int) < (k : Int) := by omega
      have HF : Hid (fromL v i = L) := Lib.hid (by
        unfold fromL
        rcases HRK.out with h | h
        · rw [HRR.out, h, if_pos rfl, HL.out, List.take_of_length_le (l := v.l) (by rw [HN.out]; exact Nat.le_refl _)]
          refine List.take_of_length_le ?_
          have h9 := HQ.out
          rw [HL.out, List.take_of_length_le (l := v.l) (by rw [HN.out]; exact Nat.le_refl _)] at h9
          omega
        · have h0 : v.l = [] := List.eq_nil_of_length_eq_zero (by rw [HN.out]; exact h)
          rw [HL.out, h0]
          split <;> simp)
      go_wp2_with fail
      go_ret
      exact ⟨B, q, cp, rfl, by rw [HF.out]; exact HQ.out, HCAP.out, by rw [HF.out]; exact HOWN.out.lower HB.out.size, below_step HB.out HB.out.size HB1.out⟩
end Go.Proofs.Ytlcnpfiiijehmaa
