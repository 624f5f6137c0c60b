/-
  The reference's row, Right, last, at, Last.
-/
import Derived.Test.YtoongmoajnedlaaGreatREntry
import Derived.Test.YtoongmoajnedlaaGreatEnt3
set_option linter.unusedVariables false
set_option linter.unusedSimpArgs false
namespace Go.Proofs.YtoongmoajnedlaaGreat
open Go.RowKit

set_option maxRecDepth 16384 in
set_option maxHeartbeats 8000000 in
theorem rrow_any (i t : Int) (A : Option Addr) (es : List Ent) (n c : Nat) (w : World) (i0 : 0 ≤ i) (i1 : i ≤ 549755813888) (hn : es.length = n) (hn2 : n ≤ 4096) (h : SeenE w A es) (hs : SmallE es) :
    Calls Tryz.prog 92 #[.int .i64 i, .int .i64 t, .slice A n c] w (RetBool w (rowB i t es)) := by
  have H := Lib.hid h
  have HN := Lib.hid hn
  have HS := Lib.hid hs
  have HST : Hid (∃ (k : Nat) (tk : Int), Value.int .i64 0 = .int .i64 (k : Int) ∧ Value.int .i64 t = .int .i64 tk ∧ k ≤ n ∧ rowB i t es = rowB (i + (k : Int)) tk (es.drop k) ∧ Below w.heap.size w w) := Lib.hid ⟨0, t, rfl, rfl, Nat.zero_le _, by rw [List.drop_zero]; simp, Below.refl _ _⟩
  clear h hn hs
  go_enter Tryz.func92, Tryz.ntmps92
  go_wp2_with fail
  go_loopw [1, 7] (fun s1 s7 wr => ∃ (k : Nat) (tk : Int), s7 = .int .i64 (k : Int) ∧ s1 = .int .i64 tk ∧ k ≤ n ∧ rowB i t es = rowB (i + (k : Int)) tk (es.drop k) ∧ Below w.heap.size w wr) (fun _ s7 _ => n - (intOf s7).toNat)
  case atStart => exact HST.out
  case round =>
    obtain ⟨k, tk, rfl, rfl, hk, hrb, hb⟩ := hrel
    have HRB := Lib.hid hrb
    have HB := Lib.hid hb
    clear HST hrb hb
    by_cases hlt : k < n
    · have hki : (k : Int) < (n : Int) := by omega
      have hkl : k < es.length := by rw [HN.out]; exact hlt
      obtain ⟨x, hx⟩ : ∃ x, es[k] = x := ⟨_, rfl⟩
      have hget : es[k]? = some x := by rw [List.getElem?_eq_getElem hkl, hx]
      have HDR : Hid (es.drop k = x :: es.drop (k + 1)) := Lib.hid (by rw [List.drop_eq_getElem_cons hkl, hx])
      obtain ⟨ad, A1, c1, rfl, hcs, hc1, hsd⟩ := (H.out.below HB.out).at hget
      have hsm := HS.out x (by rw [← hx]; exact List.getElem_mem hkl)
      obtain ⟨q, hq⟩ : ∃ q, x.data.length = q := ⟨_, rfl⟩
      rw [hq] at hcs hc1 hsm
      have HPE := Lib.hid (rright_any x A1 q c1 wr hq hc1 hsm hsd)
      rw [Ent.val_eq] at HPE
      unfold Ent.cells at HPE
      have HY : Hid (∀ W', Below wr.heap.size wr W' → W'.cell? (ad.add (k * 4)) = some (.int .i64 x.term) ∧ W'.cell? ⟨(ad.add (k * 4)).block, (ad.add (k * 4)).off + 1, none⟩ = some (.int .i64 x.index)) := Lib.hid (fun W' hb' => by
        have a0 := hcs 0 _ rfl
        have a1 := hcs 1 _ rfl
        rw [add_zero'] at a0
        rw [add_pos _ 1 (by decide)] at a1
        exact ⟨(hb'.cell (World.block_lt_of_cell? _ _ a0)).trans a0, (hb'.cell (World.block_lt_of_cell? _ _ a1)).trans a1⟩)
      have HCS := Lib.hid hcs
      have e1 : IntKind.i64.wrap (i + 1) = i + 1 := IntWalk.i64_in _ (by omega)
      have e2 : IntKind.i64.wrap (i + 1 + (k : Int)) = i + 1 + (k : Int) := IntWalk.i64_in _ (by omega)
      obtain ⟨rx, hrx⟩ : ∃ rx, rightE x = rx := ⟨_, rfl⟩
      rw [hrx] at HPE
      have HRX := Lib.hid hrx
      obtain ⟨xt, hxt⟩ : ∃ xt, x.term = xt := ⟨_, rfl⟩
      obtain ⟨xi, hxi⟩ : ∃ xi, x.index = xi := ⟨_, rfl⟩
      rw [hxt, hxi] at HY
      have HXT := Lib.hid hxt
      have HXI := Lib.hid hxi
      clear hcs hsd hx hget hkl hq hrx hxt hxi
      cases rx with
      | false =>
        have HF : Hid (rowB i t es = false) := Lib.hid (by rw [HRB.out, HDR.out]; exact rowB_bad (.inl HRX.out))
        go_wp2_with (first
          | (refine wpList_load_far rfl 110 _ rfl (ad.add (k * 4)) rfl (x.cells (.slice A1 q c1)) _ HCS.out Tryz.underlying110 rfl (by kernel_rfl) ?_)
          | (go_at_call 153; refine HPE.out.mono ?_; rintro e w2 ⟨rfl, hb2⟩; obtain ⟨v0, v1⟩ := HY.out w2 hb2; have HB2 := Lib.hid (below_step HB.out HB.out.size hb2); clear hb2)
          | fail)
        go_ret
        exact ⟨by rw [HF.out]; rfl, HB2.out⟩
      | true =>
        by_cases g1 : xi = i + 1 + (k : Int)
        · subst g1
          by_cases g2 : xt < tk
          · have HF : Hid (rowB i t es = false) := Lib.hid (by rw [HRB.out, HDR.out]; exact rowB_bad (.inr (.inr (by rw [HXT.out]; exact g2))))
            go_wp2_with (first
              | (refine wpList_load_far rfl 110 _ rfl (ad.add (k * 4)) rfl (x.cells (.slice A1 q c1)) _ HCS.out Tryz.underlying110 rfl (by kernel_rfl) ?_)
              | (go_at_call 153; refine HPE.out.mono ?_; rintro e w2 ⟨rfl, hb2⟩; obtain ⟨v0, v1⟩ := HY.out w2 hb2; have HB2 := Lib.hid (below_step HB.out HB.out.size hb2); clear hb2)
              | fail)
            go_ret
            exact ⟨by rw [HF.out]; rfl, HB2.out⟩
          · have HNX : Hid (rowB i t es = rowB (i + ((k + 1 : Nat) : Int)) xt (es.drop (k + 1))) := Lib.hid (by
              rw [HRB.out, HDR.out, rowB_good HRX.out (by rw [HXI.out]; omega) (by rw [HXT.out]; omega), HXI.out, HXT.out]
              congr 1
              omega)
            go_wp2_with (first
              | (refine wpList_load_far rfl 110 _ rfl (ad.add (k * 4)) rfl (x.cells (.slice A1 q c1)) _ HCS.out Tryz.underlying110 rfl (by kernel_rfl) ?_)
              | (go_at_call 153; refine HPE.out.mono ?_; rintro e w2 ⟨rfl, hb2⟩; obtain ⟨v0, v1⟩ := HY.out w2 hb2; have HB2 := Lib.hid (below_step HB.out HB.out.size hb2); clear hb2)
              | fail)
            go_roundw
            case rel => exact ⟨k + 1, xt, by go_num, rfl, hlt, HNX.out, HB2.out⟩
            case measure => simp [intOf] <;> omega
        · have g1' : (xi == i + 1 + (k : Int)) = false := by simpa using g1
          have HF : Hid (rowB i t es = false) := Lib.hid (by rw [HRB.out, HDR.out]; exact rowB_bad (.inr (.inl (by rw [HXI.out]; omega))))
          go_wp2_with (first
            | (refine wpList_load_far rfl 110 _ rfl (ad.add (k * 4)) rfl (x.cells (.slice A1 q c1)) _ HCS.out Tryz.underlying110 rfl (by kernel_rfl) ?_)
            | (go_at_call 153; refine HPE.out.mono ?_; rintro e w2 ⟨rfl, hb2⟩; obtain ⟨v0, v1⟩ := HY.out w2 hb2; have HB2 := Lib.hid (below_step HB.out HB.out.size hb2); clear hb2)
            | fail)
          go_ret
          exact ⟨by rw [HF.out]; rfl, HB2.out⟩
    · have hki : ¬ (k : Int) < (n : Int) := by omega
      have HT : Hid (rowB i t es = true) := Lib.hid (by rw [HRB.out, List.drop_of_length_le (by rw [HN.out]; omega)]; rfl)
      go_wp2_with fail
      go_ret
      exact ⟨by rw [HT.out]; rfl, HB.out⟩
set_option maxHeartbeats 4000000 in
theorem rrightv_any (v : Vw) (A : Option Addr) (n c : Nat) (w : World) (hn : v.l.length = n) (hn2 : n ≤ 140737488355328) (h : SeenE w A v.l) (hs : SmallE v.l) :
    Calls Tryz.prog 39 #[v.val (.slice A n c)] w (RetBool w (rightV v)) := by
  obtain ⟨b, t, l⟩ := v
  dsimp only at hn h hs
  unfold Vw.val
  dsimp only
  obtain ⟨W, hW⟩ : ∃ W, w.alloc (.cells #[.int .i64 b, .int .i64 t, .slice A n c] 66) = W := ⟨_, rfl⟩
  have hb : Below w.heap.size w W := by rw [← hW]; exact (Below.refl _ _).alloc (Nat.le_refl _) _
  have k0 : W.cell? ⟨w.heap.size, 0, none⟩ = some (.int .i64 b) := by rw [← hW]; simp
  have k1 : W.cell? ⟨w.heap.size, 1, none⟩ = some (.int .i64 t) := by rw [← hW]; simp
  have k2 : W.cell? ⟨w.heap.size, 2, none⟩ = some (.slice A n c) := by rw [← hW]; simp
  have HW := Lib.hid hW
  have HB := Lib.hid hb
  have HR : Hid (rightV ⟨b, t, l⟩ = (decide (0 ≤ b) && (decide (b ≤ 549755813888) && (decide (0 ≤ t) && (decide (t < 1099511627776) && (decide (n ≤ 4096) && rowB b t l)))))) := Lib.hid (by unfold rightV; rw [← hn])
  have HROW : Hid (0 ≤ b → b ≤ 549755813888 → n ≤ 4096 → Calls Tryz.prog 92 #[.int .i64 b, .int .i64 t, .slice A n c] W (RetBool W (rowB b t l))) := Lib.hid (fun h1 h2 h3 => rrow_any b t A l n c W h1 h2 hn h3 (h.below hb) hs)
  clear hW hb h hn hs
  by_cases g : 0 ≤ b ∧ b ≤ 549755813888 ∧ 0 ≤ t ∧ t < 1099511627776 ∧ n ≤ 4096
  · obtain ⟨b1, b2, t1, t2, n1⟩ := g
    have n1i : (n : Int) ≤ 4096 := by omega
    have HR2 : Hid (rightV ⟨b, t, l⟩ = rowB b t l) := Lib.hid (by rw [HR.out, decide_eq_true b1, decide_eq_true b2, decide_eq_true t1, decide_eq_true t2, decide_eq_true n1]; simp)
    have HRO := Lib.hid (HROW.out b1 b2 n1)
    clear HR HROW
    go_enter Tryz.func39, Tryz.ntmps39
    go_upto_region 1 with fail
    rw [HW.out]
    go_wp2_with (first
      | (go_at_call 92; refine HRO.out.mono ?_; rintro e w2 ⟨rfl, hb2⟩; have HB2 := Lib.hid (below_step HB.out HB.out.size hb2); clear hb2)
      | fail)
    go_ret
    exact ⟨by rw [HR2.out]; rfl, HB2.out⟩
  · have HR2 : Hid (rightV ⟨b, t, l⟩ = false) := Lib.hid (by
      cases hh : rightV ⟨b, t, l⟩ with
      | false => rfl
      | true =>
        exfalso
        rw [HR.out] at hh
        simp only [Bool.and_eq_true, decide_eq_true_eq] at hh
        exact g ⟨hh.1, hh.2.1, hh.2.2.1, hh.2.2.2.1, hh.2.2.2.2.1⟩)
    have hways : ¬ 0 ≤ b ∨ (0 ≤ b ∧ ¬ b ≤ 549755813888) ∨ (0 ≤ b ∧ b ≤ 549755813888 ∧ ¬ 0 ≤ t) ∨ (0 ≤ b ∧ b ≤ 549755813888 ∧ 0 ≤ t ∧ ¬ t < 1099511627776) ∨ (0 ≤ b ∧ b ≤ 549755813888 ∧ 0 ≤ t ∧ t < 1099511627776 ∧ ¬ (n : Int) ≤ 4096) := by omega
    clear g HR HROW
    rcases hways with g1 | ⟨g1, g2⟩ | ⟨g1, g2, g3⟩ | ⟨g1, g2, g3, g4⟩ | ⟨g1, g2, g3, g4, g5⟩
    all_goals
      go_enter Tryz.func39, Tryz.ntmps39
      go_upto_region 1 with fail
      rw [HW.out]
      go_wp2_with fail
      go_ret
      exact ⟨by rw [HR2.out]; rfl, HB.out⟩
theorem rlast_any (v : Vw) (A : Option Addr) (n c : Nat) (w : World) (hn : v.l.length = n) (hn2 : n ≤ 140737488355328) (hb1 : -1 ≤ v.base) (hb2 : v.base ≤ 140737488355328) :
    Calls Tryz.prog 90 #[v.val (.slice A n c)] w fun e w' => e = .returned (.int .i64 (lastV v)) ∧ Below w.heap.size w w' := by
  obtain ⟨b, t, l⟩ := v
  dsimp only at hn hb1 hb2
  unfold Vw.val lastV
  dsimp only
  rw [hn]
  clear hn
  go_enter Tryz.func90, Tryz.ntmps90
  go_wp2_with fail
  go_ret
  exact ⟨rfl, (Below.refl _ _).alloc (Nat.le_refl _) _⟩
set_option maxHeartbeats 1000000 in
theorem rat_any (v : Vw) (i : Int) (A : Option Addr) (n c : Nat) (w : World) (hn : v.l.length = n) (hn2 : n ≤ 140737488355328) (hb1 : -1 ≤ v.base) (hb2 : v.base ≤ 140737488355328) (h : SeenE w A v.l) (hi1 : v.base ≤ i) (hi2 : i ≤ v.base + (n : Int)) :
    Calls Tryz.prog 91 #[v.val (.slice A n c), .int .i64 i] w fun e w' => e = .returned (.int .i64 (atV v i)) ∧ Below w.heap.size w w' := by
  obtain ⟨b, t, l⟩ := v
  dsimp only at hn hb1 hb2 h hi1 hi2
  unfold Vw.val atV
  dsimp only
  obtain ⟨W, hW⟩ : ∃ W, w.alloc (.cells #[.int .i64 b, .int .i64 t, .slice A n c] 66) = W := ⟨_, rfl⟩
  have hb : Below w.heap.size w W := by rw [← hW]; exact (Below.refl _ _).alloc (Nat.le_refl _) _
  have k0 : W.cell? ⟨w.heap.size, 0, none⟩ = some (.int .i64 b) := by rw [← hW]; simp
  have k1 : W.cell? ⟨w.heap.size, 1, none⟩ = some (.int .i64 t) := by rw [← hW]; simp
  have k2 : W.cell? ⟨w.heap.size, 2, none⟩ = some (.slice A n c) := by rw [← hW]; simp
  have HW := Lib.hid hW
  have HB := Lib.hid hb
  have H := Lib.hid (h.below hb)
  have HN := Lib.hid hn
  clear hW hb h hn
  by_cases g : i = b
  · subst g
    rw [if_pos rfl]
    go_enter Tryz.func91, Tryz.ntmps91
    go_upto_region 1 with fail
    rw [HW.out]
    go_wp2_with fail
    go_ret
    exact ⟨rfl, HB.out⟩
  · have g' : (i == b) = false := by simpa using g
    rw [if_neg g]
    obtain ⟨k, hk⟩ : ∃ k : Nat, i - b - 1 = (k : Int) := ⟨(i - b - 1).toNat, by omega⟩
    have hkn : k < n := by omega
    have hki : (k : Int) < (n : Int) := by omega
    have hkl : k < l.length := by rw [HN.out]; exact hkn
    have hget : l[k]? = some (l.getD k e0) := by rw [List.getD_eq_getElem?_getD, List.getElem?_eq_getElem hkl]; rfl
    obtain ⟨ad, A1, c1, rfl, hcs, _, _⟩ := H.out.at hget
    have z0 : W.cell? (ad.add (k * 4)) = some (.int .i64 (l.getD k e0).term) := by
      have h9 := hcs 0 _ rfl
      rwa [add_zero'] at h9
    have e1 : IntKind.i64.wrap (i - b) = i - b := IntWalk.i64_in _ (by omega)
    have e2 : IntKind.i64.wrap (i - b - 1) = (k : Int) := by rw [← hk]; exact IntWalk.i64_in _ (by omega)
    have HKT : Hid ((i - b - 1).toNat = k) := Lib.hid (by omega)
    rw [HKT.out]
    obtain ⟨tv, htv⟩ : ∃ tv, (l.getD k e0).term = tv := ⟨_, rfl⟩
    rw [htv] at z0 ⊢
    clear hkl hget hcs htv
    go_enter Tryz.func91, Tryz.ntmps91
    go_upto_region 1 with fail
    rw [HW.out]
    go_wp2_with fail
    go_ret
    exact ⟨rfl, HB.out⟩
set_option maxHeartbeats 4000000 in
theorem rlastof_any (v : Vw) (A : Option Addr) (n c : Nat) (w : World) (hn : v.l.length = n) (hn2 : n ≤ 140737488355328) (h : SeenE w A v.l) (hs : SmallE v.l) :
    Calls Tryz.prog 38 #[v.val (.slice A n c)] w (RetLast v w) := by
  obtain ⟨W, hW⟩ : ∃ W, w.alloc (.cells #[.int .i64 v.base, .int .i64 v.term, .slice A n c] 66) = W := ⟨_, rfl⟩
  have hb : Below w.heap.size w W := by rw [← hW]; exact (Below.refl _ _).alloc (Nat.le_refl _) _
  have k0 : W.cell? ⟨w.heap.size, 0, none⟩ = some (.int .i64 v.base) := by rw [← hW]; simp
  have k1 : W.cell? ⟨w.heap.size, 1, none⟩ = some (.int .i64 v.term) := by rw [← hW]; simp
  have k2 : W.cell? ⟨w.heap.size, 2, none⟩ = some (.slice A n c) := by rw [← hW]; simp
  have HRT := Lib.hid (rrightv_any v A n c W hn hn2 (h.below hb) hs)
  unfold RetLast
  obtain ⟨r, hr⟩ : ∃ r, rightV v = r := ⟨_, rfl⟩
  rw [hr] at HRT ⊢
  obtain ⟨lv, hlv⟩ : ∃ lv, lastV v = lv := ⟨_, rfl⟩
  rw [hlv]
  obtain ⟨av, hav⟩ : ∃ av, atV v lv = av := ⟨_, rfl⟩
  rw [hav]
  have HLVE := Lib.hid hlv
  have HAVE := Lib.hid hav
  have HW := Lib.hid hW
  have HB := Lib.hid hb
  have HRR := Lib.hid hr
  obtain ⟨gb, hgb⟩ : ∃ gb, w.heap.size = gb := ⟨_, rfl⟩
  rw [hgb] at k0 k1 k2
  have HGB := Lib.hid hgb
  have H := Lib.hid h
  have HN := Lib.hid hn
  unfold Vw.val at HRT ⊢
  have HK : Hid (∀ W', Below W.heap.size W W' → W'.cell? ⟨gb, 0, none⟩ = some (.int .i64 v.base) ∧ W'.cell? ⟨gb, 1, none⟩ = some (.int .i64 v.term) ∧ W'.cell? ⟨gb, 2, none⟩ = some (.slice A n c)) := Lib.hid (fun W' hb' => ⟨(hb'.cell (World.block_lt_of_cell? _ _ k0)).trans k0, (hb'.cell (World.block_lt_of_cell? _ _ k1)).trans k1, (hb'.cell (World.block_lt_of_cell? _ _ k2)).trans k2⟩)
  clear hW hb h hn hs hr hgb hlv hav
  go_enter Tryz.func38, Tryz.ntmps38
  go_upto_region 1 with fail
  rw [HW.out]
  try rw [HGB.out]
  cases r with
  | false =>
    go_wp2_with (first
      | (go_at_call 39; refine HRT.out.mono ?_; rintro e w2 ⟨rfl, hb2⟩; have HB2 := Lib.hid (below_step HB.out HB.out.size hb2); clear hb2)
      | fail)
    go_ret2
    exact ⟨rfl, HB2.out⟩
  | true =>
    obtain ⟨b1, b2, t1, t2, n1, hrow⟩ := rightV_iff.1 HRR.out
    rw [HN.out] at n1
    have HLA := Lib.hid (fun W' => rlast_any v A n c W' HN.out (by omega) (by omega) (by omega))
    have HLV : Hid (lastV v = v.base + (n : Int)) := Lib.hid (by unfold lastV; rw [HN.out])
    have HAT := Lib.hid (fun W' (hb' : Below w.heap.size w W') => rat_any v (lastV v) A n c W' HN.out (by omega) (by omega) (by omega) (H.out.below hb') (by rw [HLV.out]; omega) (by rw [HLV.out]; omega))
    unfold Vw.val at HLA HAT
    rw [HLVE.out] at HLA HAT
    rw [HAVE.out] at HAT
    clear b1 b2 t1 t2 n1 hrow HLV
    go_upto_region 3 with (first
      | (go_at_call 39; refine HRT.out.mono ?_; rintro e w2 ⟨rfl, hb2⟩; have HB2 := Lib.hid hb2; clear hb2)
      | fail)
    clear k0 k1 k2
    refine wp_region_calm (Later w2) (by kernel_rfl) (by kernel_rfl) (Below.refl _ _).drew (fun hne => ?_)
    have c0 := fun p : InS (Later w2) => (HK.out p.w (below_step HB2.out HB2.out.size p.h)).1
    have c1 := fun p : InS (Later w2) => (HK.out p.w (below_step HB2.out HB2.out.size p.h)).2.1
    have c2 := fun p : InS (Later w2) => (HK.out p.w (below_step HB2.out HB2.out.size p.h)).2.2
    have HBW2 := Lib.hid (below_step HB.out HB.out.size HB2.out)
    repeat (go_big_quiet_step (first
      | (go_at_call 90; exact calm_of (HLA.out _) (by rintro e w' ⟨rfl, hb⟩; exact ⟨rfl, later_step (InS.h _) hb⟩))
      | (go_at_call 91; exact calm_of (HAT.out _ (below_step HBW2.out HBW2.out.size (InS.h _))) (by rintro e w' ⟨rfl, hb⟩; exact ⟨rfl, later_step (InS.h _) hb⟩))
      | fail))
    refine wpQuiet_nil ?_
    rintro _ ⟨p, rfl⟩
    clear c0 c1 c2
    go_wp2_with fail
    go_ret2
    exact ⟨rfl, below_step HBW2.out HBW2.out.size p.h⟩
end Go.Proofs.YtoongmoajnedlaaGreat
