/-
  Try, of what may be sent to a view that may be.
-/
import Derived.Test.YtlcnpfiiijehmaaTry1
import Derived.Test.YtlcnpfiiijehmaaBatch
import Derived.Deep.CutRange
import Derived.Deep.CutBlock
set_option linter.unusedVariables false
set_option linter.unusedSimpArgs false
namespace Go.Proofs.Ytlcnpfiiijehmaa
open Go.RowKit
attribute [local go_sem] Oper.semAt_some

def FitAt (W : World) (g : Nat) (b : Bool) (p t : Int) (d : Value) : Prop := W.heap[g]? = some (.cells #[.bool b, .int .i64 p, .int .i64 t, d] 56 (0, 0))
section
variable {W : World} {g : Nat} {b : Bool} {p t : Int} {d : Value}
theorem FitAt.cells (h : FitAt W g b p t d) : W.cell? ⟨g, 0, none⟩ = some (.bool b) ∧ W.cell? ⟨g, 1, none⟩ = some (.int .i64 p) ∧ W.cell? ⟨g, 2, none⟩ = some (.int .i64 t) ∧ W.cell? ⟨g, 3, none⟩ = some d :=
  ⟨by rw [cell_of_row _ _ 0 _ _ _ h]; rfl, by rw [cell_of_row _ _ 1 _ _ _ h]; rfl, by rw [cell_of_row _ _ 2 _ _ _ h]; rfl, by rw [cell_of_row _ _ 3 _ _ _ h]; rfl⟩
theorem FitAt.below {n : Nat} {W' : World} (h : FitAt W g b p t d) (hb : Below n W W') (hg : g < n) : FitAt W' g b p t d := (hb.block g hg).trans h
theorem FitAt.keep {W' : World} (h : FitAt W g b p t d) (hb : Below W.heap.size W W') : FitAt W' g b p t d := (hb.block g (Array.getElem?_eq_some_iff.1 h).1).trans h
theorem FitAt.set0 (h : FitAt W g b p t d) (x : Bool) : FitAt (W.setCell ⟨g, 0, none⟩ (.bool x)) g x p t d := by unfold FitAt at *; simp [World.setCell, Array.getElem?_modify, h]
theorem FitAt.set1 (h : FitAt W g b p t d) (x : Int) : FitAt (W.setCell ⟨g, 1, none⟩ (.int .i64 x)) g b x t d := by unfold FitAt at *; simp [World.setCell, Array.getElem?_modify, h]
theorem FitAt.set2 (h : FitAt W g b p t d) (x : Int) : FitAt (W.setCell ⟨g, 2, none⟩ (.int .i64 x)) g b p x d := by unfold FitAt at *; simp [World.setCell, Array.getElem?_modify, h]
theorem FitAt.set3 (h : FitAt W g b p t d) (x : Value) : FitAt (W.setCell ⟨g, 3, none⟩ x) g b p t x := by unfold FitAt at *; simp [World.setCell, Array.getElem?_modify, h]
theorem FitAt.far (h : FitAt W g b p t d) (q : Addr) (hq : q.block ≠ g) (x : Value) : FitAt (W.setCell q x) g b p t d := (Below.heap_setCell _ _ _ _ (fun e => hq e.symm)).trans h
theorem FitAt.all (h : FitAt W g b p t d) (b' : Bool) (p' t' : Int) (d' : Value) : FitAt ((((W.setCell ⟨g, 0, none⟩ (.bool b')).setCell ⟨g, 1, none⟩ (.int .i64 p')).setCell ⟨g, 2, none⟩ (.int .i64 t')).setCell ⟨g, 3, none⟩ d') g b' p' t' d' := (((h.set0 b').set1 p').set2 t').set3 d'
theorem FitAt.grown {W' : World} {row : Option Nat} (h : FitAt W g b p t d) (hg : W.grownBy W' row) (hne : ∀ r, row = some r → r ≠ g) : FitAt W' g b p t d := (hg.block g (Array.getElem?_eq_some_iff.1 h).1 (fun e => hne g e.symm rfl)).trans h
theorem FitAt.lt (h : FitAt W g b p t d) : g < W.heap.size := (Array.getElem?_eq_some_iff.1 h).1
end
theorem ret_endc {R : Ending → World → Prop} {W : World} {fn : Func} {tm : Array Value} {v : Value} (hres : (results fn tm).run Try.prog W = .ok v W) (h : R (.returned v) W) :
    bodyPostM Fence.wide 0 Try.prog fn R .ret { tmps := tm, defers := [] } W := ⟨v, hres, h⟩
theorem ret_endc1 {R : Ending → World → Prop} {W : World} {fn : Func} {tm : Array Value} {v : Value} {D : Nat} (hd : W.heap[D]? = some (.deferred (some []))) (hres : (results fn tm).run Try.prog (W.putObj D (.deferred none)) = .ok v (W.putObj D (.deferred none))) (h : R (.returned v) (W.putObj D (.deferred none))) :
    bodyPostM Fence.wide 0 Try.prog fn R .ret { tmps := tm, defers := [{ target := .collected D, args := #[] }] } W := by
  refine ⟨by simp, .inl ⟨_, _, rfl, run_takeDeferred hd, ?_⟩⟩
  exact ⟨v, hres, h⟩
theorem set4_far (W : World) (g j : Nat) (a b c d : Value) : ((((W.setCell ⟨g + 1, 0, none⟩ a).setCell ⟨g + 1, 1, none⟩ b).setCell ⟨g + 1, 2, none⟩ c).setCell ⟨g + 1, 3, none⟩ d).cell? ⟨g, j, none⟩ = W.cell? ⟨g, j, none⟩ := by
  rw [World.cell?_setCell_other _ _ _ _ (fun h => by injection h with h1; omega), World.cell?_setCell_other _ _ _ _ (fun h => by injection h with h1; omega), World.cell?_setCell_other _ _ _ _ (fun h => by injection h with h1; omega), World.cell?_setCell_other _ _ _ _ (fun h => by injection h with h1; omega)]
def TryOK (v : Vw) (lv prev term : Int) : Prop := ¬ lv < prev ∧ ¬ (prev = v.base ∧ v.term ≠ term) ∧ ¬ (v.base < prev ∧ atV v prev ≠ term)
theorem set4_block (W : World) (g D : Nat) (a b c d : Value) (hne : D ≠ g + 1) : ((((W.setCell ⟨g + 1, 0, none⟩ a).setCell ⟨g + 1, 1, none⟩ b).setCell ⟨g + 1, 2, none⟩ c).setCell ⟨g + 1, 3, none⟩ d).heap[D]? = W.heap[D]? := by
  rw [Below.heap_setCell _ _ _ _ hne, Below.heap_setCell _ _ _ _ hne, Below.heap_setCell _ _ _ _ hne, Below.heap_setCell _ _ _ _ hne]
theorem own_alloc_below (W : World) (cs : Array Value) : Below W.heap.size W (W.alloc (.cells cs 54)) := (Below.refl _ _).alloc (Nat.le_refl _) _
/-- Between two rounds of Try's last loop. -/
def toI (gb bf n0 : Nat) (mt cut : Int) (xs : List Ent) (w : World) (k : Nat) (W : World) : Prop :=
  ∃ A c, FitAt W bf true mt cut (.slice A k c) ∧ FitAt W (gb + 1) false 0 0 (.slice none 0 0) ∧ OwnsE n0 (.slice A k c) k (xs.take k) W ∧ Below gb w W ∧ n0 ≤ W.heap.size ∧ k ≤ xs.length
theorem toI_mild {gb bf n0 X : Nat} {mt cut : Int} {xs : List Ent} {w : World} {k : Nat} {A B : World} (hn : gb ≤ w.heap.size) (hX : X < n0) (h1 : bf ≠ X) (h2 : gb + 1 ≠ X) (h : toI gb bf n0 mt cut xs w k A) (hm : Mild gb X A B) : toI gb bf n0 mt cut xs w k B := by
  obtain ⟨A1, c, b1, b2, ho, hb, hs, hkx⟩ := h
  exact ⟨A1, c, hm.cells bf _ b1 rfl h1, hm.cells (gb + 1) _ b2 rfl h2, ho.mild hm hX, hm.below hb hn, Nat.le_trans hs hm.size, hkx⟩
theorem badI_cases (v : Vw) (l : List Ent) : badI v l = -1 ∨ ∃ k, k < l.length ∧ badI v l = (k : Int) := by
  unfold badI
  cases h : l.findIdx? (badV v) with
  | none => exact .inl rfl
  | some k =>
    rw [List.findIdx?_eq_some_iff_getElem] at h
    obtain ⟨hk, _⟩ := h
    exact .inr ⟨k, hk, rfl⟩
noncomputable def cutV (v : Vw) (l : List Ent) : Int := if badI v l < 0 then 0 else (l.getD (badI v l).toNat e0).index
/-- What sent entries make of a view. -/
noncomputable def fitV (v : Vw) (prev term : Int) (l : List Ent) : Bool × Int × Int × List Ent :=
  if lastV v < prev then (false, lastV v + 1, 0, [])
  else if prev = v.base ∧ v.term ≠ term then (false, v.base + 1, 0, [])
  else if v.base < prev ∧ atV v prev ≠ term then (false, firstV v (atV v prev), 0, [])
  else (true, max (prev + (l.length : Int)) v.base, cutV v l, fromA (if badI v l < 0 then lastV v + 1 else cutV v l) l)
def RetTry (v : Vw) (prev term : Int) (l : List Ent) (w : World) (e : Ending) (w' : World) : Prop := ∃ A n c, e = .returned (.agg #[.bool (fitV v prev term l).1, .int .i64 (fitV v prev term l).2.1, .int .i64 (fitV v prev term l).2.2.1, .slice A n c]) ∧ OwnsE w.heap.size (.slice A n c) n (fitV v prev term l).2.2.2 w' ∧ Below w.heap.size w w'
set_option maxRecDepth 16384 in
set_option maxHeartbeats 16000000 in
theorem try_any (v : Vw) (prev term : Int) (l : List Ent) (A L : Option Addr) (n c m cl : Nat) (w : World) (hn : v.l.length = n) (hr : rightV v = true) (h : SeenE w A v.l) (hs : SmallE v.l) (hp : 0 ≤ prev) (hp2 : prev ≤ 1099511627776) (ht : 0 ≤ term) (hm : l.length = m) (hm8 : m ≤ 8) (hrow : rowB prev term l = true) (hL : SeenE w L l) (hsl : SmallE l) :
    Calls Try.prog 21 #[v.val (.slice A n c), .int .i64 prev, .int .i64 term, .slice L m cl] w (RetTry v prev term l w) := by
  obtain ⟨b1, b2, t1, t2, n1, hrw⟩ := rightV_iff.1 hr
  rw [hn] at n1
  obtain ⟨W0, hW0⟩ : ∃ W0, w.alloc (.cells #[.int .i64 v.base, .int .i64 v.term, .slice A n c] 26) = W0 := ⟨_, rfl⟩
  obtain ⟨W, hW⟩ : ∃ W, W0.alloc (.cells #[.bool false, .int .i64 0, .int .i64 0, .slice none 0 0] 56) = W := ⟨_, rfl⟩
  have hz0 : W0.heap.size = w.heap.size + 1 := by rw [← hW0]; simp
  have hz : W.heap.size = w.heap.size + 2 := by rw [← hW, World.size_alloc, hz0]
  have hb0 : Below w.heap.size w W0 := by rw [← hW0]; exact (Below.refl _ _).alloc (Nat.le_refl _) _
  have hb1 : Below W0.heap.size W0 W := by rw [← hW]; exact (Below.refl _ _).alloc (Nat.le_refl _) _
  have hb : Below w.heap.size w W := below_step hb0 hb0.size hb1
  have hr0 : ViewAt W0 w.heap.size v (.slice A n c) := by rw [← hW0]; exact heap_alloc_new w _
  have hrv := hr0.below hb1
  have hx2 : FitAt W (w.heap.size + 1) false 0 0 (.slice none 0 0) := by
    have h9 : FitAt W W0.heap.size false 0 0 (.slice none 0 0) := by rw [← hW]; exact heap_alloc_new W0 _
    rwa [hz0] at h9
  have HRT := Lib.hid (rightv_any v A n c W hn (by omega) (h.below hb) hs)
  have HRO := Lib.hid (fun W' (hb' : Below w.heap.size w W') => row_any prev term L l m cl W' ⟨by omega, by omega⟩ hm (by omega) (hL.below hb') hsl)
  rw [hr] at HRT
  rw [hrow] at HRO
  have HLA := Lib.hid (fun W' => last_any v A n c W' hn (by omega) (by omega) (by omega))
  obtain ⟨lv, hlv⟩ : ∃ lv, lastV v = lv := ⟨_, rfl⟩
  have hlv2 : lv = v.base + (n : Int) := by rw [← hlv]; unfold lastV; rw [hn]
  have HAT := Lib.hid (fun W' (hb' : Below w.heap.size w W') (i : Int) (h1 : v.base ≤ i) (h2 : i ≤ lv) => at_any v i A n c W' hn (by omega) (by omega) (by omega) (h.below hb') h1 (by omega))
  have HFI := Lib.hid (fun W' (hb' : Below w.heap.size w W') i => first_any v i A n c W' hn (by omega) (h.below hb') hs)
  have HIX := Lib.hid (fun W' (hb' : Below w.heap.size w W') gb (hg : ViewAt W' gb v (.slice A n c)) => indexfunc_any v l A L n c m cl gb w W' hb' hn h hg hr hL hm (by omega))
  have HM := Lib.hid hm
  have HLV2 := Lib.hid hlv2
  have hlvb : lv ≤ 1099511627776 := by omega
  have hlv0 : 0 ≤ lv := by omega
  have HLVE := Lib.hid hlv
  have HL := Lib.hid hL
  have HSL := Lib.hid hsl
  have HB := Lib.hid hb
  have HX2 := Lib.hid hx2
  have HZ := Lib.hid hz
  have HW0 := Lib.hid hW0
  have HW := Lib.hid hW
  have HRV := Lib.hid hrv
  unfold Vw.val at HRT HLA HAT HFI ⊢
  rw [hlv] at HLA
  obtain ⟨gb, hgb⟩ : ∃ gb, w.heap.size = gb := ⟨_, rfl⟩
  have HGB := Lib.hid hgb
  have HK : Hid (∀ W', Below W.heap.size W W' → (W'.cell? ⟨gb, 0, none⟩ = some (.int .i64 v.base) ∧ W'.cell? ⟨gb, 1, none⟩ = some (.int .i64 v.term) ∧ W'.cell? ⟨gb, 2, none⟩ = some (.slice A n c)) ∧ FitAt W' (gb + 1) false 0 0 (.slice none 0 0)) := Lib.hid (fun W' hb' => ⟨by rw [← hgb]; exact (hrv.below hb').cells, by rw [← hgb]; exact hx2.keep hb'⟩)
  clear hW0 hW hz0 hz hb0 hb1 hb hr0 hrv hx2 hn hs h hL hsl hrow hrw hlv hlv2 hr t1 t2 hgb hm
  obtain ⟨⟨k0, k1, k2⟩, _⟩ := HK.out W (Below.refl _ _)
  refine enter_marks Try.func21 rfl ?_
  simp only [Try.ntmps21, List.size_toArray, List.length_cons, List.length_nil, Nat.reduceAdd, Nat.reduceSub, Array.replicate_succ, Array.replicate_zero, List.push_toArray, List.append_toArray, List.nil_append, List.cons_append]
  go_upto_block 0 with fail
  rw [HW0.out, HW.out]
  try rw [HGB.out]
  have g8 : ¬ (8 : Int) < (m : Int) := by omega
  have gp : ¬ prev < 0 := by omega
  have gt : ¬ term < 0 := by omega
  go_cut [] from 13 to 71 (fun wc => Below W.heap.size W wc ∧ Hid (TryOK v lv prev term))
  case first =>
    go_upto_region 7 with (first
      | (go_at_call 24; refine HRT.out.mono ?_; rintro e w2 ⟨rfl, hb2⟩; have H2 := Lib.hid hb2; clear hb2)
      | (go_at_call 37; refine (HRO.out w2 (below_step HB.out HB.out.size H2.out)).mono ?_; rintro e w3 ⟨rfl, hb3⟩; have H3 := Lib.hid (below_step H2.out H2.out.size hb3); obtain ⟨⟨c0, c1, c2⟩, _⟩ := HK.out w3 H3.out; clear hb3)
      | fail)
    clear k0 k1 k2 g8 gt
    by_cases g1 : lv < prev
    · have HV : Hid (fitV v prev term l = (false, lv + 1, 0, [])) := Lib.hid (by unfold fitV; rw [HLVE.out, if_pos g1])
      have e1 : IntKind.i64.wrap (lv + 1) = lv + 1 := IntWalk.i64_in _ (by omega)
      go_wp2_with (first
        | (go_at_call 38; have hu := HU.out; refine (HLA.out w4).mono ?_; rintro e w5 ⟨rfl, hb5⟩; have H5 := Lib.hid (below_step H4.out H4.out.size hb5); obtain ⟨⟨i0, i1, i2⟩, hft⟩ := HK.out w5 H5.out; obtain ⟨f0, f1, f2, f3⟩ := hft.cells; have ff := frozen_of_cells hft; have HFT := Lib.hid hft; have HBL := Lib.hid (below_step HB.out HB.out.size H5.out); clear hb5 hft)
        | (go_at_call 38; refine (HLA.out w3).mono ?_; rintro e w4 ⟨rfl, hb4⟩; have H4 := Lib.hid (below_step H3.out H3.out.size hb4); obtain ⟨⟨d0, d1, d2⟩, _⟩ := HK.out w4 H4.out; have HU : Hid True := Lib.hid trivial; clear hb4)
        | fail)
      have hrowZ := HFT.out.all false (lv + 1) 0 (.slice none 0 0)
      unfold FitAt at hrowZ
      refine ret_endc (v := .agg #[.bool false, .int .i64 (lv + 1), .int .i64 0, .slice none 0 0]) (results_cell_row rfl _ _ _ _ _ _ _ rfl hrowZ Try.underlying56 rfl (by kernel_rfl)) ?_
      have hgw := HGB.out
      refine ⟨none, 0, 0, by rw [HV.out], by rw [HV.out]; exact OwnsE.nil _ _, ?_⟩
      exact below_set (below_set (below_set (below_set HBL.out _ (by show _ ≤ gb + 1; omega) _) _ (by show _ ≤ gb + 1; omega) _) _ (by show _ ≤ gb + 1; omega) _) _ (by show _ ≤ gb + 1; omega) _
    · go_upto_region 9 with (first
        | (go_at_call 38; refine (HLA.out w3).mono ?_; rintro e w4 ⟨rfl, hb4⟩; have H4 := Lib.hid (below_step H3.out H3.out.size hb4); obtain ⟨⟨d0, d1, d2⟩, hft⟩ := HK.out w4 H4.out; have hfc := hft.cells; obtain ⟨f0, f1, f2, f3⟩ := hft.cells; have ff := frozen_of_cells hft; have HFT := Lib.hid hft; have HBL := Lib.hid (below_step HB.out HB.out.size H4.out); clear hb4 hft hfc)
        | fail)
      clear c0 c1 c2
      by_cases g2 : prev = v.base ∧ v.term ≠ term
      · have HV : Hid (fitV v prev term l = (false, v.base + 1, 0, [])) := Lib.hid (by unfold fitV; rw [HLVE.out, if_neg (by omega), if_pos g2])
        have e1 : IntKind.i64.wrap (v.base + 1) = v.base + 1 := IntWalk.i64_in _ (by omega)
        have g2a : (prev == v.base) = true := by simpa using g2.1
        have g2b : ¬ v.term = term := g2.2
        have g2c : (v.term == term) = false := by simpa using g2b
        have g2d := g2.1
        clear g2
        go_wp2_with fail
        have hrowZ := HFT.out.all false (v.base + 1) 0 (.slice none 0 0)
        unfold FitAt at hrowZ
        refine ret_endc (v := .agg #[.bool false, .int .i64 (v.base + 1), .int .i64 0, .slice none 0 0]) (results_cell_row rfl _ _ _ _ _ _ _ rfl hrowZ Try.underlying56 rfl (by kernel_rfl)) ?_
        have hgw := HGB.out
        refine ⟨none, 0, 0, by rw [HV.out], by rw [HV.out]; exact OwnsE.nil _ _, ?_⟩
        exact below_set (below_set (below_set (below_set HBL.out _ (by show _ ≤ gb + 1; omega) _) _ (by show _ ≤ gb + 1; omega) _) _ (by show _ ≤ gb + 1; omega) _) _ (by show _ ≤ gb + 1; omega) _
      · by_cases g3 : v.base < prev ∧ atV v prev ≠ term
        · have HV : Hid (fitV v prev term l = (false, firstV v (atV v prev), 0, [])) := Lib.hid (by unfold fitV; rw [HLVE.out, if_neg (by omega), if_neg g2, if_pos g3])
          have HAT1 := Lib.hid (fun W' (hb' : Below w.heap.size w W') => HAT.out W' hb' prev (by omega) (by omega))
          obtain ⟨av, hav⟩ : ∃ av, atV v prev = av := ⟨_, rfl⟩
          rw [hav] at HAT1
          have g3a : v.base < prev := g3.1
          have g3b : ¬ av = term := by rw [← hav]; exact g3.2
          have g3c : (av == term) = false := by simpa using g3b
          have g3d : (prev == v.base) = false := by simp; omega
          have HAV := Lib.hid hav
          clear hav g2 g3
          go_upto_region 12 with (first
            | (go_at_call 39; refine (HAT1.out w4 HBL.out).mono ?_; rintro e w5 ⟨rfl, hb5⟩; have H5 := Lib.hid (below_step H4.out H4.out.size hb5); clear hb5)
            | fail)
          have bd : Below W.heap.size W w5.drew := H5.out.drew
          clear d0 d1 d2 f0 f1 f2 f3 ff g3c g3d g3a g3b
          go_region_held3 (fun W' => W'.cell? ⟨gb, 0, none⟩ = some (.int .i64 v.base) ∧ W'.cell? ⟨gb, 1, none⟩ = some (.int .i64 v.term) ∧ W'.cell? ⟨gb, 2, none⟩ = some (.slice A n c))
            (first
              | (refine (HK.out _ ?_).1; assumption)
              | (rw [set4_far, set4_far, set4_far]; exact (HK.out _ hb7').1)
              | fail)
            (first
              | (go_at_call 39; refine (HAT1.out _ (below_step HB.out HB.out.size (show Below W.heap.size W _ by assumption))).mono ?_; rintro e w6 ⟨rfl, hb6⟩; have hb6' := below_step (show Below W.heap.size W _ by assumption) (Below.size (by assumption)) hb6)
              | (go_at_call 40; refine (HFI.out _ (below_step HB.out HB.out.size hb6') av).mono ?_; rintro e w7 ⟨rfl, hb7⟩; have hb7' := below_step hb6' hb6'.size hb7; have hft := (HK.out w7 hb7').2; obtain ⟨f0, f1, f2, f3⟩ := hft.cells; have ff := frozen_of_cells hft; have HFT7 := Lib.hid hft; clear hft)
              | fail)
          all_goals
            clear HFT HBL
            have HFT := HFT7
            have HBL := Lib.hid (below_step HB.out HB.out.size hb7')
            go_wp2_with fail
            have hrowZ := HFT.out.all false (firstV v av) 0 (.slice none 0 0)
            unfold FitAt at hrowZ
            refine ret_endc (v := .agg #[.bool false, .int .i64 (firstV v av), .int .i64 0, .slice none 0 0]) (results_cell_row rfl _ _ _ _ _ _ _ rfl hrowZ Try.underlying56 rfl (by kernel_rfl)) ?_
            have hgw := HGB.out
            refine ⟨none, 0, 0, by rw [HV.out, HAV.out], by rw [HV.out]; exact OwnsE.nil _ _, ?_⟩
            exact below_set (below_set (below_set (below_set HBL.out _ (by show _ ≤ gb + 1; omega) _) _ (by show _ ≤ gb + 1; omega) _) _ (by show _ ≤ gb + 1; omega) _) _ (by show _ ≤ gb + 1; omega) _
        · have HG : Hid (TryOK v lv prev term) := Lib.hid ⟨by omega, g2, g3⟩
          by_cases p1 : prev = v.base
          · have p2 : v.term = term := Classical.byContradiction (fun h => g2 ⟨p1, h⟩)
            have p1c : ¬ v.base < prev := by omega
            clear g2 g3
            subst p1
            subst p2
            go_wp2_with fail
            go_meet
            case rel => exact ⟨H4.out, HG.out⟩
          · by_cases p2 : v.base < prev
            · have p3 : atV v prev = term := Classical.byContradiction (fun h => g3 ⟨p2, h⟩)
              have HAT1 := Lib.hid (fun W' (hb' : Below w.heap.size w W') => HAT.out W' hb' prev (by omega) (by omega))
              rw [p3] at HAT1
              have p1a : (prev == v.base) = false := by simpa using p1
              clear g2 g3 p3
              go_wp2_with (first
                | (go_at_call 39; refine (HAT1.out w4 HBL.out).mono ?_; rintro e w5 ⟨rfl, hb5⟩; have H5 := Lib.hid (below_step H4.out H4.out.size hb5); clear hb5)
                | fail)
              go_meet
              case rel => exact ⟨H5.out, HG.out⟩
            · have p1a : (prev == v.base) = false := by simpa using p1
              clear g2 g3
              go_wp2_with fail
              go_meet
              case rel => exact ⟨H4.out, HG.out⟩
  case rest =>
    obtain ⟨hbc, hg⟩ := hcut
    obtain ⟨g1, g2, g3⟩ := hg.out
    have HBC := Lib.hid hbc
    obtain ⟨⟨c0, c1, c2⟩, _⟩ := HK.out wc hbc
    obtain ⟨mt, hmt⟩ : ∃ mt, max (prev + (m : Int)) v.base = mt := ⟨_, rfl⟩
    have e1 : IntKind.i64.wrap (prev + (m : Int)) = prev + (m : Int) := IntWalk.i64_in _ (by omega)
    have HG : Hid (TryOK v lv prev term) := hg
    have HMT := Lib.hid hmt
    clear hbc hg g1 g2 g3 k0 k1 k2
    go_upto_region 14 with fail
    rw [show (if prev + (m : Int) < v.base then v.base else prev + (m : Int)) = mt from by rw [← hmt]; split <;> omega]
    clear hmt e1
    obtain ⟨w4, hw4⟩ : ∃ w4, wc.alloc (.cells #[.bool true, .int .i64 mt, .int .i64 0, .slice none 0 0] 56) = w4 := ⟨_, rfl⟩
    have hb4 : Below wc.heap.size wc w4 := by rw [← hw4]; exact (Below.refl _ _).alloc (Nat.le_refl _) _
    have hft4 : FitAt w4 wc.heap.size true mt 0 (.slice none 0 0) := by rw [← hw4]; exact heap_alloc_new wc _
    rw [hw4]
    obtain ⟨bf, hbf⟩ : ∃ bf, wc.heap.size = bf := ⟨_, rfl⟩
    rw [hbf] at hft4
    try rw [hbf]
    have HBF : Hid (gb + 2 ≤ bf) := Lib.hid (by have := HBC.out.size; have := HZ.out; have := HGB.out; omega)
    have HFT4 := Lib.hid hft4
    have H4 := Lib.hid (below_step HBC.out HBC.out.size hb4)
    have HVA : Hid (ViewAt w4 gb v (.slice A n c)) := Lib.hid (by
      have h9 := (HRV.out.below H4.out)
      rw [HGB.out] at h9
      exact h9)
    obtain ⟨ki, hki⟩ : ∃ ki, badI v l = ki := ⟨_, rfl⟩
    have HIX4 := Lib.hid (HIX.out w4 (below_step HB.out HB.out.size H4.out) gb HVA.out)
    rw [hki] at HIX4
    have HKI := Lib.hid hki
    have e1 : IntKind.i64.wrap (lv + 1) = lv + 1 := IntWalk.i64_in _ (by omega)
    clear hw4 hb4 hft4 hbf hki c0 c1 c2
    go_upto_region 16 with (first
      | (go_at_call 41; refine HIX4.out.mono ?_; rintro e w5 ⟨rfl, hb5⟩; have H45 := Lib.hid hb5; have H5 := Lib.hid (below_step H4.out H4.out.size hb5); obtain ⟨⟨c0, c1, c2⟩, _⟩ := HK.out w5 H5.out; clear hb5)
      | (go_at_call 38; refine (HLA.out w5).mono ?_; rintro e w6 ⟨rfl, hb6⟩; have H46 := Lib.hid (below_step H45.out H45.out.size hb6); have H6 := Lib.hid (below_step H5.out H5.out.size hb6); clear hb6)
      | fail)
    clear c0 c1 c2 e1
    have hft6 := HFT4.out.keep H46.out
    have hfr6 := (HK.out w6 H6.out).2
    by_cases hkn : ki < 0
    · obtain ⟨cut, hcut⟩ : ∃ cut : Int, 0 = cut := ⟨_, rfl⟩
      obtain ⟨fv, hfv⟩ : ∃ fv, lv + 1 = fv := ⟨_, rfl⟩
      have HCUT : Hid (cutV v l = cut) := Lib.hid (by unfold cutV; rw [HKI.out, if_pos hkn]; exact hcut)
      have HFV : Hid ((if badI v l < 0 then lv + 1 else cut) = fv) := Lib.hid (by rw [HKI.out, if_pos hkn]; exact hfv)
      rw [hcut] at hft6
      have HFT := Lib.hid hft6
      have HFR := Lib.hid hfr6
      have HBT := Lib.hid (below_step HB.out HB.out.size H6.out)
      have hki2 : ¬ 0 ≤ ki := by omega
      rw [hfv]
      clear hcut hfv hft6 hfr6 hkn
      have HV : Hid (fitV v prev term l = (true, mt, cut, fromA fv l)) := Lib.hid (by
        unfold fitV
        obtain ⟨g1, g2, g3⟩ := HG.out
        rw [HLVE.out, if_neg g1, if_neg g2, if_neg g3, HM.out, HMT.out, HCUT.out, HFV.out])
      go_wp2_with (first
        | (go_at_call 43; refine (behind_any _ rfl _ _).mono ?_; rintro e8 w8 ⟨rfl, hw8⟩)
        | fail)
      obtain ⟨b1, hb1⟩ : ∃ b1, w6.heap.size = b1 := ⟨_, rfl⟩
      have hz8 : w8.heap.size = b1 + 2 := by rw [← hw8, World.size_alloc, World.size_alloc, hb1]
      have hb8 : Below w6.heap.size w6 w8 := by rw [← hw8]; exact ((Below.refl _ _).alloc (Nat.le_refl _) _).alloc (by simp) _
      have hbw : Below w.heap.size w w8 := below_step HBT.out HBT.out.size hb8
      have hg1 : bf < b1 := by rw [← hb1]; exact HFT.out.lt
      have hg2 : gb + 1 < bf := by have := HBF.out; omega
      have hgw : w.heap.size = gb := HGB.out
      have x1 := HFT.out.keep hb8
      have x2 := HFR.out.keep hb8
      have y1 : w8.cell? ⟨b1, 0, none⟩ = some (.slice L m cl) := by
        rw [← hw8, ← hb1]
        exact ((Box.new w6 22 (.slice L m cl)).alloc (.cells #[.int .i64 fv] 3)).cell
      have y2 : w8.cell? ⟨b1 + 1, 0, none⟩ = some (.int .i64 fv) := by
        have h9 := (Box.new (w6.alloc (.cells #[.slice L m cl] 22)) 3 (.int .i64 fv)).cell
        rw [World.size_alloc, hb1, hw8] at h9
        exact h9
      have hco : toI gb bf (b1 + 2) mt cut (fromA fv l) w 0 w8 := ⟨none, 0, x1, x2, OwnsE.nil _ _, by rw [← hgw]; exact hbw, by omega, Nat.zero_le _⟩
      have HCO := Lib.hid hco
      have HSQ := Lib.hid (behind_seq (fun b => b < b1 + 2 ∧ b ≠ bf) (b1 + 2) b1 (b1 + 1) L m cl fv l w w8 hbw HM.out (by omega) HL.out HSL.out y1 y2 (fun b h => by omega) (by omega) (fun b h => by omega) (by omega))
      have hxl : (fromA fv l).length ≤ 8 := by
        have h9 := List.length_filter_le (fun x : Ent => decide (fv ≤ x.index)) l
        have h8 := HM.out
        unfold fromA
        omega
      have HGW := Lib.hid hgw
      rw [hb1]
      clear hw8 hb8 hbw x1 x2 y1 y2 hco hgw
      try clear c0 c1 c2
      refine (wpIn_wide (n := 0)).1 ?_
      refine wp_rangeE ?F1 (w0 := w8) (n := gb) (X := b1) rfl (fun args w => by kernel_rfl) HSQ.out ?hKb (Below.refl _ _) ?hps (by omega) (by have := HGW.out; omega) (fun j W => toI gb bf (b1 + 2) mt cut (fromA fv l) w j W) ?hI ?h0 ?hassign ?hbody ?hdone
      case hKb => exact fun b h => by omega
      case hps =>
        rintro k x args W ⟨_, _, rfl, _⟩
        rfl
      case hI => exact fun j X Y hm h => toI_mild (X := b1) (by have := HGW.out; omega) (by omega) (by omega) (by omega) h hm
      case h0 => exact HCO.out
      case hassign =>
        rintro ll j x A3 c3 W' K hx hown hi hK
        have hsz : b1 + 2 ≤ W'.heap.size := by
          obtain ⟨_, _, _, _, _, _, h, _⟩ := hi
          exact h
        rw [Ent.val_eq]
        unfold Ent.cells
        gi_wp2
        have hbe : Below W'.heap.size W' (W'.alloc (Obj.cells #[.int .i64 x.term, .int .i64 x.index, .int .i64 x.kind, .slice A3 x.data.length c3] 54)) := (Below.refl _ _).alloc (Nat.le_refl _) _
        have hent : EntAt (W'.alloc (Obj.cells #[.int .i64 x.term, .int .i64 x.index, .int .i64 x.kind, .slice A3 x.data.length c3] 54)) W'.heap.size x (.slice A3 x.data.length c3) := heap_alloc_new W' _
        have hk1 := KeepsOthers.alloc W' (Obj.cells #[.int .i64 x.term, .int .i64 x.index, .int .i64 x.kind, .slice A3 x.data.length c3] 54)
        have hk2 : KeptOn (fun b => b < b1 + 2 ∧ b ≠ bf) W' (W'.alloc (Obj.cells #[.int .i64 x.term, .int .i64 x.index, .int .i64 x.kind, .slice A3 x.data.length c3] 54)) := KeptOn.alloc _ (fun b h => by omega)
        have hi2 := toI_mild (X := b1) (by have := HGW.out; omega) (by omega) (by omega) (by omega) hi (Mild.of_grown (n := gb) (X := b1) (below_grown hbe) (fun r e => by cases e))
        have ho2 := own_keep hown hbe
        obtain ⟨We, hWe⟩ : ∃ We, W'.alloc (Obj.cells #[.int .i64 x.term, .int .i64 x.index, .int .i64 x.kind, .slice A3 x.data.length c3] 54) = We := ⟨_, rfl⟩
        rw [hWe] at hent hk1 hk2 hi2 ho2
        rw [hWe]
        obtain ⟨bx, hbx⟩ : ∃ bx, W'.heap.size = bx := ⟨_, rfl⟩
        rw [hbx] at hent hsz
        rw [hbx]
        exact hK _ _ (hk1.from _) hk2 hi2 hent ho2 hsz
      case hbody =>
        rintro ll j x A3 c3 bx W5 hx ⟨A1, c1, bx1, bx2, ho, hb, hs, hkx⟩ hent hown3 hbx
        have hjl := (List.getElem?_eq_some_iff.1 hx).1
        have m1 := bx1.cells.2.2.2
        have f1 := frozen_of_cells bx1
        unfold EntAt at hent
        have e0 := cell_of_row W5 bx 0 _ _ _ hent
        have e1 := cell_of_row W5 bx 1 _ _ _ hent
        have e2 := cell_of_row W5 bx 2 _ _ _ hent
        have e3 := cell_of_row W5 bx 3 _ _ _ hent
        simp at e0 e1 e2 e3
        obtain ⟨q, hq⟩ : ∃ q, x.data.length = q := ⟨_, rfl⟩
        rw [hq] at e3 hown3
        rw [hq]
        have HQ := Lib.hid hq
        have HX := Lib.hid hx
        clear hq hx
        obtain ⟨cells, o1, o2⟩ := ho
        have O1 := Lib.hid o1
        have O2 := Lib.hid o2
        have BX1 := Lib.hid bx1
        have BX2 := Lib.hid bx2
        clear o1 o2 bx1 bx2
        gi_wp2_with (gi_at_builtin; go_loud (refine wpListIn_append_sees rfl (.tmp 101) (.tmp 103) 22 rfl (b1 + 2) 54 (.agg zeros4) 4 48 Try.underlying22 infoE rfl (by decide) (.slice A1 j c1) j cells rfl (own_alloc' O1.out _) (some ⟨W5.heap.size, 0, none⟩) 1 1 (x.cells (.slice A3 q c3)) rfl rfl (sees_new W5 #[.int .i64 x.term, .int .i64 x.index, .int .i64 x.kind, .slice A3 q c3] 54) (cells_ones x A3 q c3) (by simp only [maxLen]; omega) (by omega) (by first | (simp; done) | (simp; omega)) ?_); intro A2 c2' w6 hown2 hg2 hat2; have bz1 := (BX1.out.keep (own_alloc_below W5 #[.int .i64 x.term, .int .i64 x.index, .int .i64 x.kind, .slice A3 q c3])).grown hg2 (fun r e => by have := (own_block_ge O1.out r e).1; omega); have bz2 := (BX2.out.keep (own_alloc_below W5 #[.int .i64 x.term, .int .i64 x.index, .int .i64 x.kind, .slice A3 q c3])).grown hg2 (fun r e => by have := (own_block_ge O1.out r e).1; omega); have c3' := bz1.cells.2.2.2; have f3' := frozen_of_cells bz1)
        have hbe : Below W5.heap.size W5 (W5.alloc (Obj.cells #[.int .i64 x.term, .int .i64 x.index, .int .i64 x.kind, .slice A3 q c3] 54)) := (Below.refl _ _).alloc (Nat.le_refl _) _
        have hown1 := own_alloc' O1.out (.cells #[.int .i64 x.term, .int .i64 x.index, .int .i64 x.kind, .slice A3 q c3] 54)
        refine ⟨?_, ?_, ?_⟩
        · exact (((KeepsOthers.alloc W5 _).trans (KeepsOthers.of_grownBy hg2 (ownE_cells hown1))).trans (KeepsOthers.setCell _ _ _)).from _
        · refine ((KeptOn.alloc _ ?_).trans (KeptOn.grown hg2 ?_)).trans (KeptOn.set _ ?_)
          · exact fun b h => by omega
          · exact fun b h => ⟨by simp; omega, fun e => by have := (own_block_ge O1.out b e.symm).1; omega⟩
          · intro h
            simp at h
        · have htk : (fromA fv l).take (j + 1) = (fromA fv l).take j ++ [x] := by rw [List.take_succ_eq_append_getElem hjl, (List.getElem?_eq_some_iff.1 HX.out).2]
          refine ⟨A2, c2', bz1.set3 _, bz2.far _ (by show bf ≠ gb + 1; omega) _, ?_, ?_, ?_, hjl⟩
          · rw [htk]
            refine OwnsE.far (OwnsE.snoc hown1 (O2.out.imp fun k y cs _ hl => hl.below hbe) ⟨A3, c3, by rw [HQ.out], ?_⟩ hown2 hg2) _ (by show bf < _; omega) _
            rw [HQ.out]
            exact own_keep hown3 hbe
          · exact (below_grown_own (hb.alloc (by have := hb.size; have := HGW.out; omega) _) (by have := hb.size; have := HGW.out; simp; omega) hown1 (by omega) hg2).setCell (by show gb ≤ bf; omega) _
          · have := hg2.size
            simp [World.setCell] at this ⊢
            omega
      case hdone =>
        rintro D W5 hD ⟨A1, c1, bx1, bx2, ho, hb, hs, hkx⟩ hK
        obtain ⟨k, hk⟩ : ∃ k, (fromA fv l).length = k := ⟨_, rfl⟩
        rw [hk] at bx1 ho
        have hfl : (fromA fv l).take k = fromA fv l := by rw [← hk, List.take_length]
        rw [hfl] at ho
        obtain ⟨s0, s1, s2, s3⟩ := bx1.cells
        obtain ⟨r0, r1, r2, r3⟩ := bx2.cells
        have fr := frozen_of_cells bx2
        have HBX2 := Lib.hid bx2
        have HO := Lib.hid ho
        have HBW := Lib.hid hb
        have HKD := Lib.hid hK
        clear ho hb hK bx1 bx2 hk hkx hfl
        go_wp2
        have hX := HBX2.out.all true mt cut (.slice A1 k c1)
        have hKX := (set4_block W5 gb D (.bool true) (.int .i64 mt) (.int .i64 cut) (.slice A1 k c1) (by omega)).trans HKD.out
        have hoX := (((HO.out.far ⟨gb + 1, 0, none⟩ (by show gb + 1 < _; omega) (.bool true)).far ⟨gb + 1, 1, none⟩ (by show gb + 1 < _; omega) (.int .i64 mt)).far ⟨gb + 1, 2, none⟩ (by show gb + 1 < _; omega) (.int .i64 cut)).far ⟨gb + 1, 3, none⟩ (by show gb + 1 < _; omega) (.slice A1 k c1)
        have hbX := below_set (below_set (below_set (below_set HBW.out ⟨gb + 1, 0, none⟩ (by show _ ≤ gb + 1; omega) (.bool true)) ⟨gb + 1, 1, none⟩ (by show _ ≤ gb + 1; omega) (.int .i64 mt)) ⟨gb + 1, 2, none⟩ (by show _ ≤ gb + 1; omega) (.int .i64 cut)) ⟨gb + 1, 3, none⟩ (by show _ ≤ gb + 1; omega) (.slice A1 k c1)
        have hm5 := Mild.of_grown (n := gb) (X := b1) (grownBy_putObj' _ D (.deferred none)) (fun r e => by cases e; exact ⟨by omega, _, hKX, rfl⟩)
        have hrowZ := hm5.cells (gb + 1) _ hX rfl (by omega)
        refine ret_endc1 (v := .agg #[.bool true, .int .i64 mt, .int .i64 cut, .slice A1 k c1]) hKX (results_cell_row rfl _ _ _ _ _ _ _ rfl hrowZ Try.underlying56 rfl (by kernel_rfl)) ?_
        refine ⟨A1, k, c1, by rw [HV.out], by rw [HV.out]; exact (hoX.mild hm5 (by omega)).lower (by have := HGW.out; omega), ?_⟩
        rw [HGW.out]
        exact hm5.below hbX (by have := HGW.out; omega)

    · obtain ⟨kn, hkl, hkk⟩ : ∃ k, k < l.length ∧ ki = (k : Int) := by
        rcases badI_cases v l with h | ⟨k, h1, h2⟩
        · have := HKI.out; omega
        · exact ⟨k, h1, by rw [← HKI.out]; exact h2⟩
      subst hkk
      have hki2 : 0 ≤ (kn : Int) := by omega
      have hkm : (kn : Int) < (m : Int) := by have := HM.out; omega
      obtain ⟨x0, hx0⟩ : ∃ x, l[kn] = x := ⟨_, rfl⟩
      have hget : l[kn]? = some x0 := by rw [List.getElem?_eq_getElem hkl, hx0]
      obtain ⟨ad, A1, c1', rfl, hcs, hc1, hsd⟩ := (HL.out.below (below_step HB.out HB.out.size H6.out)).at hget
      obtain ⟨fv, hfv⟩ : ∃ fv, x0.index = fv := ⟨_, rfl⟩
      have a1 : w6.cell? ⟨(ad.add (kn * 4)).block, (ad.add (kn * 4)).off + 1, none⟩ = some (.int .i64 fv) := by
        have h9 := hcs 1 _ rfl
        rw [add_pos _ 1 (by decide), hfv] at h9
        exact h9
      have HGET := Lib.hid hget
      have HFX := Lib.hid hfv
      have HKN := Lib.hid hkn
      obtain ⟨f0, f1, f2, f3⟩ := hft6.cells
      have ff := frozen_of_cells hft6
      have HFT6 := Lib.hid hft6
      have HFR6 := Lib.hid hfr6
      clear hft6 hfr6 hkn hx0 hget hcs hc1 hsd hfv hkl
      go_upto_region 18 with fail
      obtain ⟨cut, hcut⟩ : ∃ cut, fv = cut := ⟨_, rfl⟩
      have HCUT : Hid (cutV v l = cut) := Lib.hid (by unfold cutV; rw [HKI.out, if_neg HKN.out, Int.toNat_natCast, List.getD_eq_getElem?_getD, HGET.out, ← hcut, ← HFX.out]; rfl)
      have HFV : Hid ((if badI v l < 0 then lv + 1 else cut) = fv) := Lib.hid (by rw [HKI.out, if_neg HKN.out]; exact hcut.symm)
      have hsn := HFT6.out.set2 fv
      have hrn := HFR6.out.far ⟨bf, 2, none⟩ (by show bf ≠ gb + 1; have := HBF.out; omega) (.int .i64 fv)
      have hbn := below_set (below_step HB.out HB.out.size H6.out) ⟨bf, 2, none⟩ (by show _ ≤ bf; have := HBF.out; have := HGB.out; omega) (.int .i64 fv)
      obtain ⟨wt, hwt⟩ : ∃ wt, w6.setCell ⟨bf, 2, none⟩ (.int .i64 fv) = wt := ⟨_, rfl⟩
      rw [hwt] at hsn hrn hbn
      rw [hwt]
      have hs2 := hsn.cells.2.2.1
      rw [hcut] at hsn
      have HFT := Lib.hid hsn
      have HFR := Lib.hid hrn
      have HBT := Lib.hid hbn
      clear hwt hsn hrn hbn f0 f1 f2 f3 ff a1 hcut
      have HV : Hid (fitV v prev term l = (true, mt, cut, fromA fv l)) := Lib.hid (by
        unfold fitV
        obtain ⟨g1, g2, g3⟩ := HG.out
        rw [HLVE.out, if_neg g1, if_neg g2, if_neg g3, HM.out, HMT.out, HCUT.out, HFV.out])
      go_wp2_with (first
        | (go_at_call 43; refine (behind_any _ rfl _ _).mono ?_; rintro e8 w8 ⟨rfl, hw8⟩)
        | fail)
      obtain ⟨b1, hb1⟩ : ∃ b1, wt.heap.size = b1 := ⟨_, rfl⟩
      have hz8 : w8.heap.size = b1 + 2 := by rw [← hw8, World.size_alloc, World.size_alloc, hb1]
      have hb8 : Below wt.heap.size wt w8 := by rw [← hw8]; exact ((Below.refl _ _).alloc (Nat.le_refl _) _).alloc (by simp) _
      have hbw : Below w.heap.size w w8 := below_step HBT.out HBT.out.size hb8
      have hg1 : bf < b1 := by rw [← hb1]; exact HFT.out.lt
      have hg2 : gb + 1 < bf := by have := HBF.out; omega
      have hgw : w.heap.size = gb := HGB.out
      have x1 := HFT.out.keep hb8
      have x2 := HFR.out.keep hb8
      have y1 : w8.cell? ⟨b1, 0, none⟩ = some (.slice (some ad) m cl) := by
        rw [← hw8, ← hb1]
        exact ((Box.new wt 22 (.slice (some ad) m cl)).alloc (.cells #[.int .i64 fv] 3)).cell
      have y2 : w8.cell? ⟨b1 + 1, 0, none⟩ = some (.int .i64 fv) := by
        have h9 := (Box.new (wt.alloc (.cells #[.slice (some ad) m cl] 22)) 3 (.int .i64 fv)).cell
        rw [World.size_alloc, hb1, hw8] at h9
        exact h9
      have hco : toI gb bf (b1 + 2) mt cut (fromA fv l) w 0 w8 := ⟨none, 0, x1, x2, OwnsE.nil _ _, by rw [← hgw]; exact hbw, by omega, Nat.zero_le _⟩
      have HCO := Lib.hid hco
      have HSQ := Lib.hid (behind_seq (fun b => b < b1 + 2 ∧ b ≠ bf) (b1 + 2) b1 (b1 + 1) (some ad) m cl fv l w w8 hbw HM.out (by omega) HL.out HSL.out y1 y2 (fun b h => by omega) (by omega) (fun b h => by omega) (by omega))
      have hxl : (fromA fv l).length ≤ 8 := by
        have h9 := List.length_filter_le (fun x : Ent => decide (fv ≤ x.index)) l
        have h8 := HM.out
        unfold fromA
        omega
      have HGW := Lib.hid hgw
      rw [hb1]
      clear hw8 hb8 hbw x1 x2 y1 y2 hco hgw
      try clear c0 c1 c2
      refine (wpIn_wide (n := 0)).1 ?_
      refine wp_rangeE ?F2 (w0 := w8) (n := gb) (X := b1) rfl (fun args w => by kernel_rfl) HSQ.out ?hKb (Below.refl _ _) ?hps (by omega) (by have := HGW.out; omega) (fun j W => toI gb bf (b1 + 2) mt cut (fromA fv l) w j W) ?hI ?h0 ?hassign ?hbody ?hdone
      case hKb => exact fun b h => by omega
      case hps =>
        rintro k x args W ⟨_, _, rfl, _⟩
        rfl
      case hI => exact fun j X Y hm h => toI_mild (X := b1) (by have := HGW.out; omega) (by omega) (by omega) (by omega) h hm
      case h0 => exact HCO.out
      case hassign =>
        rintro ll j x A3 c3 W' K hx hown hi hK
        have hsz : b1 + 2 ≤ W'.heap.size := by
          obtain ⟨_, _, _, _, _, _, h, _⟩ := hi
          exact h
        rw [Ent.val_eq]
        unfold Ent.cells
        gi_wp2
        have hbe : Below W'.heap.size W' (W'.alloc (Obj.cells #[.int .i64 x.term, .int .i64 x.index, .int .i64 x.kind, .slice A3 x.data.length c3] 54)) := (Below.refl _ _).alloc (Nat.le_refl _) _
        have hent : EntAt (W'.alloc (Obj.cells #[.int .i64 x.term, .int .i64 x.index, .int .i64 x.kind, .slice A3 x.data.length c3] 54)) W'.heap.size x (.slice A3 x.data.length c3) := heap_alloc_new W' _
        have hk1 := KeepsOthers.alloc W' (Obj.cells #[.int .i64 x.term, .int .i64 x.index, .int .i64 x.kind, .slice A3 x.data.length c3] 54)
        have hk2 : KeptOn (fun b => b < b1 + 2 ∧ b ≠ bf) W' (W'.alloc (Obj.cells #[.int .i64 x.term, .int .i64 x.index, .int .i64 x.kind, .slice A3 x.data.length c3] 54)) := KeptOn.alloc _ (fun b h => by omega)
        have hi2 := toI_mild (X := b1) (by have := HGW.out; omega) (by omega) (by omega) (by omega) hi (Mild.of_grown (n := gb) (X := b1) (below_grown hbe) (fun r e => by cases e))
        have ho2 := own_keep hown hbe
        obtain ⟨We, hWe⟩ : ∃ We, W'.alloc (Obj.cells #[.int .i64 x.term, .int .i64 x.index, .int .i64 x.kind, .slice A3 x.data.length c3] 54) = We := ⟨_, rfl⟩
        rw [hWe] at hent hk1 hk2 hi2 ho2
        rw [hWe]
        obtain ⟨bx, hbx⟩ : ∃ bx, W'.heap.size = bx := ⟨_, rfl⟩
        rw [hbx] at hent hsz
        rw [hbx]
        exact hK _ _ (hk1.from _) hk2 hi2 hent ho2 hsz
      case hbody =>
        rintro ll j x A3 c3 bx W5 hx ⟨A1, c1, bx1, bx2, ho, hb, hs, hkx⟩ hent hown3 hbx
        have hjl := (List.getElem?_eq_some_iff.1 hx).1
        have m1 := bx1.cells.2.2.2
        have f1 := frozen_of_cells bx1
        unfold EntAt at hent
        have e0 := cell_of_row W5 bx 0 _ _ _ hent
        have e1 := cell_of_row W5 bx 1 _ _ _ hent
        have e2 := cell_of_row W5 bx 2 _ _ _ hent
        have e3 := cell_of_row W5 bx 3 _ _ _ hent
        simp at e0 e1 e2 e3
        obtain ⟨q, hq⟩ : ∃ q, x.data.length = q := ⟨_, rfl⟩
        rw [hq] at e3 hown3
        rw [hq]
        have HQ := Lib.hid hq
        have HX := Lib.hid hx
        clear hq hx
        obtain ⟨cells, o1, o2⟩ := ho
        have O1 := Lib.hid o1
        have O2 := Lib.hid o2
        have BX1 := Lib.hid bx1
        have BX2 := Lib.hid bx2
        clear o1 o2 bx1 bx2
        gi_wp2_with (gi_at_builtin; go_loud (refine wpListIn_append_sees rfl (.tmp 101) (.tmp 103) 22 rfl (b1 + 2) 54 (.agg zeros4) 4 48 Try.underlying22 infoE rfl (by decide) (.slice A1 j c1) j cells rfl (own_alloc' O1.out _) (some ⟨W5.heap.size, 0, none⟩) 1 1 (x.cells (.slice A3 q c3)) rfl rfl (sees_new W5 #[.int .i64 x.term, .int .i64 x.index, .int .i64 x.kind, .slice A3 q c3] 54) (cells_ones x A3 q c3) (by simp only [maxLen]; omega) (by omega) (by first | (simp; done) | (simp; omega)) ?_); intro A2 c2' w6 hown2 hg2 hat2; have bz1 := (BX1.out.keep (own_alloc_below W5 #[.int .i64 x.term, .int .i64 x.index, .int .i64 x.kind, .slice A3 q c3])).grown hg2 (fun r e => by have := (own_block_ge O1.out r e).1; omega); have bz2 := (BX2.out.keep (own_alloc_below W5 #[.int .i64 x.term, .int .i64 x.index, .int .i64 x.kind, .slice A3 q c3])).grown hg2 (fun r e => by have := (own_block_ge O1.out r e).1; omega); have c3' := bz1.cells.2.2.2; have f3' := frozen_of_cells bz1)
        have hbe : Below W5.heap.size W5 (W5.alloc (Obj.cells #[.int .i64 x.term, .int .i64 x.index, .int .i64 x.kind, .slice A3 q c3] 54)) := (Below.refl _ _).alloc (Nat.le_refl _) _
        have hown1 := own_alloc' O1.out (.cells #[.int .i64 x.term, .int .i64 x.index, .int .i64 x.kind, .slice A3 q c3] 54)
        refine ⟨?_, ?_, ?_⟩
        · exact (((KeepsOthers.alloc W5 _).trans (KeepsOthers.of_grownBy hg2 (ownE_cells hown1))).trans (KeepsOthers.setCell _ _ _)).from _
        · refine ((KeptOn.alloc _ ?_).trans (KeptOn.grown hg2 ?_)).trans (KeptOn.set _ ?_)
          · exact fun b h => by omega
          · exact fun b h => ⟨by simp; omega, fun e => by have := (own_block_ge O1.out b e.symm).1; omega⟩
          · intro h
            simp at h
        · have htk : (fromA fv l).take (j + 1) = (fromA fv l).take j ++ [x] := by rw [List.take_succ_eq_append_getElem hjl, (List.getElem?_eq_some_iff.1 HX.out).2]
          refine ⟨A2, c2', bz1.set3 _, bz2.far _ (by show bf ≠ gb + 1; omega) _, ?_, ?_, ?_, hjl⟩
          · rw [htk]
            refine OwnsE.far (OwnsE.snoc hown1 (O2.out.imp fun k y cs _ hl => hl.below hbe) ⟨A3, c3, by rw [HQ.out], ?_⟩ hown2 hg2) _ (by show bf < _; omega) _
            rw [HQ.out]
            exact own_keep hown3 hbe
          · exact (below_grown_own (hb.alloc (by have := hb.size; have := HGW.out; omega) _) (by have := hb.size; have := HGW.out; simp; omega) hown1 (by omega) hg2).setCell (by show gb ≤ bf; omega) _
          · have := hg2.size
            simp [World.setCell] at this ⊢
            omega
      case hdone =>
        rintro D W5 hD ⟨A1, c1, bx1, bx2, ho, hb, hs, hkx⟩ hK
        obtain ⟨k, hk⟩ : ∃ k, (fromA fv l).length = k := ⟨_, rfl⟩
        rw [hk] at bx1 ho
        have hfl : (fromA fv l).take k = fromA fv l := by rw [← hk, List.take_length]
        rw [hfl] at ho
        obtain ⟨s0, s1, s2, s3⟩ := bx1.cells
        obtain ⟨r0, r1, r2, r3⟩ := bx2.cells
        have fr := frozen_of_cells bx2
        have HBX2 := Lib.hid bx2
        have HO := Lib.hid ho
        have HBW := Lib.hid hb
        have HKD := Lib.hid hK
        clear ho hb hK bx1 bx2 hk hkx hfl
        go_wp2
        have hX := HBX2.out.all true mt cut (.slice A1 k c1)
        have hKX := (set4_block W5 gb D (.bool true) (.int .i64 mt) (.int .i64 cut) (.slice A1 k c1) (by omega)).trans HKD.out
        have hoX := (((HO.out.far ⟨gb + 1, 0, none⟩ (by show gb + 1 < _; omega) (.bool true)).far ⟨gb + 1, 1, none⟩ (by show gb + 1 < _; omega) (.int .i64 mt)).far ⟨gb + 1, 2, none⟩ (by show gb + 1 < _; omega) (.int .i64 cut)).far ⟨gb + 1, 3, none⟩ (by show gb + 1 < _; omega) (.slice A1 k c1)
        have hbX := below_set (below_set (below_set (below_set HBW.out ⟨gb + 1, 0, none⟩ (by show _ ≤ gb + 1; omega) (.bool true)) ⟨gb + 1, 1, none⟩ (by show _ ≤ gb + 1; omega) (.int .i64 mt)) ⟨gb + 1, 2, none⟩ (by show _ ≤ gb + 1; omega) (.int .i64 cut)) ⟨gb + 1, 3, none⟩ (by show _ ≤ gb + 1; omega) (.slice A1 k c1)
        have hm5 := Mild.of_grown (n := gb) (X := b1) (grownBy_putObj' _ D (.deferred none)) (fun r e => by cases e; exact ⟨by omega, _, hKX, rfl⟩)
        have hrowZ := hm5.cells (gb + 1) _ hX rfl (by omega)
        refine ret_endc1 (v := .agg #[.bool true, .int .i64 mt, .int .i64 cut, .slice A1 k c1]) hKX (results_cell_row rfl _ _ _ _ _ _ _ rfl hrowZ Try.underlying56 rfl (by kernel_rfl)) ?_
        refine ⟨A1, k, c1, by rw [HV.out], by rw [HV.out]; exact (hoX.mild hm5 (by omega)).lower (by have := HGW.out; omega), ?_⟩
        rw [HGW.out]
        exact hm5.below hbX (by have := HGW.out; omega)

end Go.Proofs.Ytlcnpfiiijehmaa
