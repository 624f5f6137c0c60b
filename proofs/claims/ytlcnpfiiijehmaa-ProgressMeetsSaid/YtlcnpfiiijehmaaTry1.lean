/-
  What Try asks of each entry that was sent; slices.IndexFunc of it.
-/
import Derived.Test.YtlcnpfiiijehmaaFirst
import Derived.Test.YtlcnpfiiijehmaaSeqE
set_option linter.unusedVariables false
set_option linter.unusedSimpArgs false
namespace Go.Proofs.Ytlcnpfiiijehmaa
open Go.RowKit
attribute [local go_sem] Oper.semAt_some

/-- Does an entry that was sent stand against the view's? -/
noncomputable def badV (v : Vw) (x : Ent) : Bool := decide (v.base < x.index) && (decide (x.index ≤ lastV v) && !(atV v x.index == x.term))
def ViewAt (W : World) (g : Nat) (v : Vw) (d : Value) : Prop := W.heap[g]? = some (.cells #[.int .i64 v.base, .int .i64 v.term, d] 26 (0, 0))
theorem ViewAt.cells {W : World} {g : Nat} {v : Vw} {d : Value} (h : ViewAt W g v d) : W.cell? ⟨g, 0, none⟩ = some (.int .i64 v.base) ∧ W.cell? ⟨g, 1, none⟩ = some (.int .i64 v.term) ∧ W.cell? ⟨g, 2, none⟩ = some d :=
  ⟨by rw [cell_of_row _ _ 0 _ _ _ h]; rfl, by rw [cell_of_row _ _ 1 _ _ _ h]; rfl, by rw [cell_of_row _ _ 2 _ _ _ h]; rfl⟩
theorem ViewAt.below {W W' : World} {g : Nat} {v : Vw} {d : Value} (h : ViewAt W g v d) (hb : Below W.heap.size W W') : ViewAt W' g v d := (hb.block g (Array.getElem?_eq_some_iff.1 h).1).trans h
def EntAt' (W : World) (g : Nat) (x : Ent) (d : Value) : Prop := W.heap[g]? = some (.cells #[.int .i64 x.term, .int .i64 x.index, .int .i64 x.kind, d] 54 (0, 0))
set_option maxRecDepth 16384 in
set_option maxHeartbeats 8000000 in
theorem bad_any (v : Vw) (x : Ent) (A A1 : Option Addr) (n c q c1 gb : Nat) (w0 w : World) (hw0 : Below w0.heap.size w0 w) (hn : v.l.length = n) (h0 : SeenE w0 A v.l) (hg : ViewAt w gb v (.slice A n c)) (hr : rightV v = true) :
    Calls Try.prog 42 #[x.val (.slice A1 q c1), .pointer (some ⟨gb, 0, none⟩)] w (RetBool w (badV v x)) := by
  obtain ⟨b1, b2, t1, t2, n1, hrow⟩ := rightV_iff.1 hr
  rw [hn] at n1
  obtain ⟨W, hW⟩ : ∃ W, w.alloc (.cells #[.int .i64 x.term, .int .i64 x.index, .int .i64 x.kind, .slice A1 q c1] 54) = W := ⟨_, rfl⟩
  have hb : Below w.heap.size w W := by rw [← hW]; exact (Below.refl _ _).alloc (Nat.le_refl _) _
  have hx : EntAt' W w.heap.size x (.slice A1 q c1) := by rw [← hW]; exact heap_alloc_new w _
  have hgW := hg.below hb
  obtain ⟨bx, hbx⟩ : ∃ bx, w.heap.size = bx := ⟨_, rfl⟩
  rw [hbx] at hx
  have HK : Hid (∀ W', Below W.heap.size W W' → (W'.cell? ⟨gb, 0, none⟩ = some (.int .i64 v.base) ∧ W'.cell? ⟨gb, 1, none⟩ = some (.int .i64 v.term) ∧ W'.cell? ⟨gb, 2, none⟩ = some (.slice A n c)) ∧ W'.cell? ⟨bx, 0, none⟩ = some (.int .i64 x.term) ∧ W'.cell? ⟨bx, 1, none⟩ = some (.int .i64 x.index)) := Lib.hid (fun W' hb' => by
    have h9 := (hb'.block bx (Array.getElem?_eq_some_iff.1 hx).1).trans hx
    exact ⟨(hgW.below hb').cells, by rw [cell_of_row _ _ 0 _ _ _ h9]; rfl, by rw [cell_of_row _ _ 1 _ _ _ h9]; rfl⟩)
  have HW := Lib.hid hW
  have HB := Lib.hid hb
  have HBX := Lib.hid hbx
  have HN := Lib.hid hn
  have H := Lib.hid (h0.below hw0)
  have HLA := Lib.hid (fun W' => last_any v A n c W' hn (by omega) (by omega) (by omega))
  obtain ⟨lv, hlv⟩ : ∃ lv, lastV v = lv := ⟨_, rfl⟩
  have HLV : Hid (lv = v.base + (n : Int)) := Lib.hid (by rw [← hlv]; unfold lastV; rw [hn])
  have HLVE := Lib.hid hlv
  unfold Vw.val at HLA
  rw [hlv] at HLA
  unfold Ent.val
  clear hW hb hx hgW hbx hg h0 hw0 hn hlv t1 t2 hrow
  go_enter Try.func42, Try.ntmps42
  go_upto_region 1 with fail
  rw [HW.out]
  try rw [HBX.out]
  by_cases g1 : v.base < x.index
  · by_cases g2 : x.index ≤ lv
    · have HAT := Lib.hid (fun W' (hb' : Below w.heap.size w W') => at_any v x.index A n c W' HN.out (by omega) (by omega) (by omega) (H.out.below hb') (by omega) (by have := HLV.out; omega))
      unfold Vw.val at HAT
      obtain ⟨av, hav⟩ : ∃ av, atV v x.index = av := ⟨_, rfl⟩
      rw [hav] at HAT
      have HV : Hid (badV v x = !(av == x.term)) := Lib.hid (by unfold badV; rw [HLVE.out, hav]; simp [g1, g2])
      clear hav
      refine wp_region_calm (Later W) (by kernel_rfl) (by kernel_rfl) (Below.refl _ _).drew (fun hne => ?_)
      have c0 := fun p : InS (Later W) => (HK.out p.w p.h).1.1
      have c1' := fun p : InS (Later W) => (HK.out p.w p.h).1.2.1
      have c2 := fun p : InS (Later W) => (HK.out p.w p.h).1.2.2
      have c3 := fun p : InS (Later W) => (HK.out p.w p.h).2.1
      have c4 := fun p : InS (Later W) => (HK.out p.w p.h).2.2
      repeat (go_big_quiet_step (first
        | (go_at_call 38; exact calm_of (HLA.out _) (by rintro e w' ⟨rfl, hb⟩; exact ⟨rfl, later_step (InS.h _) hb⟩))
        | (go_at_call 39; exact calm_of (HAT.out _ (below_step HB.out HB.out.size (InS.h _))) (by rintro e w' ⟨rfl, hb⟩; exact ⟨rfl, later_step (InS.h _) hb⟩))
        | fail))
      refine wpQuiet_nil ?_
      rintro _ ⟨p, rfl⟩
      clear c0 c1' c2 c3 c4
      go_wp2_with fail
      go_ret
      exact ⟨by rw [HV.out]; rfl, below_step HB.out HB.out.size p.h⟩
    · have HV : Hid (badV v x = false) := Lib.hid (by unfold badV; rw [HLVE.out]; simp [g2])
      have g2' : decide (x.index ≤ lv) = false := by simpa using g2
      refine wp_region_calm (Later W) (by kernel_rfl) (by kernel_rfl) (Below.refl _ _).drew (fun hne => ?_)
      have c0 := fun p : InS (Later W) => (HK.out p.w p.h).1.1
      have c1' := fun p : InS (Later W) => (HK.out p.w p.h).1.2.1
      have c2 := fun p : InS (Later W) => (HK.out p.w p.h).1.2.2
      have c3 := fun p : InS (Later W) => (HK.out p.w p.h).2.1
      have c4 := fun p : InS (Later W) => (HK.out p.w p.h).2.2
      repeat (go_big_quiet_step (first
        | (go_at_call 38; exact calm_of (HLA.out _) (by rintro e w' ⟨rfl, hb⟩; exact ⟨rfl, later_step (InS.h _) hb⟩))
        | fail))
      refine wpQuiet_nil ?_
      rintro _ ⟨p, rfl⟩
      clear c0 c1' c2 c3 c4
      go_wp2_with fail
      go_ret
      exact ⟨by rw [HV.out]; rfl, below_step HB.out HB.out.size p.h⟩
  · have HV : Hid (badV v x = false) := Lib.hid (by unfold badV; simp [g1])
    have g1' : decide (v.base < x.index) = false := by simpa using g1
    refine wp_region_calm (Later W) (by kernel_rfl) (by kernel_rfl) (Below.refl _ _).drew (fun hne => ?_)
    have c0 := fun p : InS (Later W) => (HK.out p.w p.h).1.1
    have c1' := fun p : InS (Later W) => (HK.out p.w p.h).1.2.1
    have c2 := fun p : InS (Later W) => (HK.out p.w p.h).1.2.2
    have c3 := fun p : InS (Later W) => (HK.out p.w p.h).2.1
    have c4 := fun p : InS (Later W) => (HK.out p.w p.h).2.2
    repeat (go_big_quiet_step (first
      | fail))
    refine wpQuiet_nil ?_
    rintro _ ⟨p, rfl⟩
    clear c0 c1' c2 c3 c4
    go_wp2_with fail
    go_ret
    exact ⟨by rw [HV.out]; rfl, below_step HB.out HB.out.size p.h⟩
/-- The place of the first that stands against the view's, or -1. -/
noncomputable def badI (v : Vw) (l : List Ent) : Int := match l.findIdx? (badV v) with | some k => (k : Int) | none => -1
theorem badI_at {v : Vw} {l : List Ent} {k : Nat} {x : Ent} (h : l[k]? = some x) (hb : badV v x = true) (hk : ∀ j y, j < k → l[j]? = some y → badV v y = false) : badI v l = (k : Int) := by
  obtain ⟨hl, rfl⟩ := List.getElem?_eq_some_iff.1 h
  have : l.findIdx? (badV v) = some k := by
    rw [List.findIdx?_eq_some_iff_getElem]
    exact ⟨hl, hb, fun j hj => by rw [hk j l[j] hj (List.getElem?_eq_getElem _)]; decide⟩
  unfold badI
  rw [this]
theorem badI_none {v : Vw} {l : List Ent} (hk : ∀ (j : Nat) (y : Ent), l[j]? = some y → badV v y = false) : badI v l = -1 := by
  have : l.findIdx? (badV v) = none := by
    rw [List.findIdx?_eq_none_iff]
    intro y hy
    obtain ⟨j, hj, rfl⟩ := List.getElem_of_mem hy
    exact hk j _ (List.getElem?_eq_getElem hj)
  unfold badI
  rw [this]
set_option maxRecDepth 16384 in
set_option maxHeartbeats 8000000 in
theorem indexfunc_any (v : Vw) (l : List Ent) (A L : Option Addr) (n c m cl gb : Nat) (w0 w : World) (hw0 : Below w0.heap.size w0 w) (hn : v.l.length = n) (h0 : SeenE w0 A v.l) (hg : ViewAt w gb v (.slice A n c)) (hr : rightV v = true) (hL : SeenE w0 L l) (hm : l.length = m) (hm2 : m ≤ 140737488355328) :
    Calls Try.prog 41 #[.slice L m cl, .func (.func 42) #[] #[.pointer (some ⟨gb, 0, none⟩)]] w (RetInt (badI v l) w) := by
  have HB := Lib.hid (fun W' (hb' : Below w.heap.size w W') x A1 q c1 => bad_any v x A A1 n c q c1 gb w0 W' (below_step hw0 hw0.size hb') hn h0 (hg.below hb') hr)
  have HL := Lib.hid (hL.below hw0)
  have HM := Lib.hid hm
  have HST : Hid (∃ k : Nat, Value.int .i64 0 = .int .i64 (k : Int) ∧ k ≤ m ∧ (∀ j y, j < k → l[j]? = some y → badV v y = false) ∧ Below w.heap.size w w) := Lib.hid ⟨0, rfl, Nat.zero_le _, fun j y hj => by omega, Below.refl _ _⟩
  clear hw0 hn h0 hg hL hm
  go_enter Try.func41, Try.ntmps41
  go_wp2_with fail
  go_loopw [8] (fun s8 wr => ∃ k : Nat, s8 = .int .i64 (k : Int) ∧ k ≤ m ∧ (∀ j y, j < k → l[j]? = some y → badV v y = false) ∧ Below w.heap.size w wr) (fun s8 _ => m - (intOf s8).toNat)
  case atStart => exact HST.out
  case round =>
    obtain ⟨k, rfl, hk, hkb, hbk⟩ := hrel
    have HKB := Lib.hid hkb
    have HBK := Lib.hid hbk
    clear HST hkb hbk
    by_cases hlt : k < m
    · have hki : (k : Int) < (m : Int) := by omega
      have hkl : k < l.length := by rw [HM.out]; exact hlt
      obtain ⟨x, hx⟩ : ∃ x, l[k] = x := ⟨_, rfl⟩
      have hget : l[k]? = some x := by rw [List.getElem?_eq_getElem hkl, hx]
      obtain ⟨ad, A1, c1, rfl, hcs, hc1, hsd⟩ := (HL.out.below HBK.out).at hget
      have HCS := Lib.hid hcs
      have HGET := Lib.hid hget
      have HCB := Lib.hid (HB.out wr HBK.out x A1 x.data.length c1)
      obtain ⟨b, hb⟩ : ∃ b, badV v x = b := ⟨_, rfl⟩
      rw [hb, Ent.val_eq] at HCB
      have HBB := Lib.hid hb
      obtain ⟨q, hq⟩ : ∃ q, x.data.length = q := ⟨_, rfl⟩
      rw [hq] at HCB HCS
      clear hcs hx hget hkl hb hsd hc1 hq
      cases b with
      | true =>
        have HR : Hid (badI v l = (k : Int)) := Lib.hid (badI_at HGET.out HBB.out HKB.out)
        go_wp2_with (first
          | (refine wpList_load_far rfl 54 _ rfl (ad.add (k * 4)) rfl (x.cells (.slice A1 q c1)) _ HCS.out Try.underlying54 rfl (by kernel_rfl) ?_)
          | (go_at_call 42; refine HCB.out.mono ?_; rintro e w3 ⟨rfl, hb3⟩; have HB3 := Lib.hid (below_step HBK.out HBK.out.size hb3); clear hb3)
          | fail)
        go_ret
        exact ⟨by rw [HR.out]; rfl, HB3.out⟩
      | false =>
        have HR : Hid (∀ j y, j < k + 1 → l[j]? = some y → badV v y = false) := Lib.hid (fun j y hj hy => by
          rcases Nat.lt_or_ge j k with h | h
          · exact HKB.out j y h hy
          · obtain rfl : j = k := by omega
            rw [HGET.out] at hy
            cases hy
            exact HBB.out)
        go_wp2_with (first
          | (refine wpList_load_far rfl 54 _ rfl (ad.add (k * 4)) rfl (x.cells (.slice A1 q c1)) _ HCS.out Try.underlying54 rfl (by kernel_rfl) ?_)
          | (go_at_call 42; refine HCB.out.mono ?_; rintro e w3 ⟨rfl, hb3⟩; have HB3 := Lib.hid (below_step HBK.out HBK.out.size hb3); clear hb3)
          | fail)
        go_roundw
        case rel => exact ⟨k + 1, by go_num, hlt, HR.out, HB3.out⟩
        case measure => simp [intOf] <;> omega
    · obtain rfl : k = m := by omega
      have hki : ¬ (k : Int) < (k : Int) := by omega
      have HR : Hid (badI v l = -1) := Lib.hid (badI_none (fun j y hy => HKB.out j y (by have := (List.getElem?_eq_some_iff.1 hy).1; have := HM.out; omega) hy))
      go_wp2_with fail
      go_ret
      exact ⟨by rw [HR.out]; rfl, HBK.out⟩
end Go.Proofs.Ytlcnpfiiijehmaa
