/-
  NetPlays: one step of a net and its reference.
-/
import Derived.Test.YtfhmdphcgcmaeaaPair2
import Derived.Test.YtfhmdphcgcmaeaaNetF
import Derived.Deep.LoopGhost
import Derived.Deep.CutBlock
import Derived.Deep.DeepCutAuto
set_option linter.unusedVariables false
set_option linter.unusedSimpArgs false
namespace Go.Proofs.Ytfhmdphcgcmaeaa
open Go.RowKit

/-- Both nets have taken their step. -/
def Stepped (T : Nat → Prop) (g1 g2 : Nat) (most : Int) (W W' : World) : Prop := ∃ ls' ids', PairN (Plus (Cut T W) W) g1 g2 most ls' ids' W' ∧ Outside (Cut T W) W W'
def RetStep (T : Nat → Prop) (g1 g2 : Nat) (most : Int) (w : World) (e : Ending) (w' : World) : Prop := e = .returned (.bool true) ∧ Stepped T g1 g2 most w w'
theorem Fit.sent {most : Int} {ls : List Lt} (h : Fit most ls) (l : Lt) : Fit most (if sendE most ls.length l = 0 then ls ++ [l] else ls) := by
  split
  · rename_i hs; exact h.snoc hs
  · exact h
theorem Fit.doubled {most : Int} {ls : List Lt} (h : Fit most ls) (k : Int) : Fit most (if doubleE most ls k = 0 then ls ++ [lookL ls k] else ls) := by
  split
  · rename_i hd
    unfold doubleE at hd
    split at hd
    · exact h.snoc hd
    · exact absurd hd (by assumption)
  · exact h
theorem Fit.lost {most : Int} {ls : List Lt} (h : Fit most ls) (k : Int) : Fit most (if atE k ls.length = 0 then ls.eraseIdx k.toNat else ls) := by
  split
  · exact h.erase _
  · exact h
theorem Fit.taken {most : Int} {ls : List Lt} (h : Fit most ls) (wl : List Bool) (k : Int) : Fit most (takeN wl ls k) := by
  unfold takeN
  split
  · exact h.erase _
  · exact h
theorem own_set8 {w : World} {base g n c : Nat} {bs : List UInt8} (h : w.ownsRow base 5 1 (.slice (some ⟨g, 0, none⟩) n c) n (u8s bs)) (j : Nat) (y : UInt8) :
    (w.setCell ⟨g, j, none⟩ (.int .u8 (y.toNat : Int))).ownsRow base 5 1 (.slice (some ⟨g, 0, none⟩) n c) n (u8s (bs.set j y)) := by
  have hs := (h.stored j (.int .u8 (y.toNat : Int))).1
  rw [show u8s (bs.set j y) = (u8s bs).set j (.int .u8 (y.toNat : Int)) from by simp [u8s, u8v, List.map_set]]
  exact hs
theorem own_fz {w : World} {base g n c size : Nat} {e : TypeId} {xs : List Value} (h : w.ownsRow base e size (.slice (some ⟨g, 0, none⟩) n c) n xs) (j : Nat) : w.frozen? ⟨g, j, none⟩ = false := by
  rcases h.2 with ⟨h', _⟩ | ⟨g', cap', cur, h', _, hh, _⟩
  · cases h'
  · cases h'
    simp [World.frozen?, hh]
theorem u8_next (y : UInt8) : ∃ y' : UInt8, IntKind.u8.wrap ((y.toNat : Int) + 1) = (y'.toNat : Int) := by
  refine ⟨y + 1, ?_⟩
  rw [IntKind.wrap_u8, UInt8.toNat_add]
  have : (1 : UInt8).toNat = 1 := rfl
  rw [this]
  omega
/-- Between two rounds of the loops that write a letter's bytes. -/
def ByteLoop (base : Nat) (wc : World) (A : Option Addr) (n c : Nat) (v : Value) (wr : World) : Prop :=
  ∃ (j : Nat) (bs' : List UInt8), v = .int .i64 (j : Int) ∧ j ≤ n ∧ bs'.length = n ∧ wr.ownsRow base 5 1 (.slice A n c) n (u8s bs') ∧ Outside (fun b => (Value.slice A n c).ownBlock = some b) wc wr
theorem cells6 {W : World} {b : Nat} {v0 v1 v2 v3 v4 v5 : Value} {ty : TypeId} (h : W.heap[b]? = some (.cells #[v0, v1, v2, v3, v4, v5] ty (0, 0))) :
    W.cell? ⟨b, 0, none⟩ = some v0 ∧ W.cell? ⟨b, 1, none⟩ = some v1 ∧ W.cell? ⟨b, 2, none⟩ = some v2 ∧ W.cell? ⟨b, 3, none⟩ = some v3 ∧ W.cell? ⟨b, 4, none⟩ = some v4 ∧ W.cell? ⟨b, 5, none⟩ = some v5 :=
  ⟨by rw [cell_of_row _ _ 0 _ _ _ h]; rfl, by rw [cell_of_row _ _ 1 _ _ _ h]; rfl, by rw [cell_of_row _ _ 2 _ _ _ h]; rfl, by rw [cell_of_row _ _ 3 _ _ _ h]; rfl, by rw [cell_of_row _ _ 4 _ _ _ h]; rfl, by rw [cell_of_row _ _ 5 _ _ _ h]; rfl⟩
theorem cells3 {W : World} {b : Nat} {v0 v1 v2 : Value} {ty : TypeId} (h : W.heap[b]? = some (.cells #[v0, v1, v2] ty (0, 0))) :
    W.cell? ⟨b, 0, none⟩ = some v0 ∧ W.cell? ⟨b, 1, none⟩ = some v1 ∧ W.cell? ⟨b, 2, none⟩ = some v2 :=
  ⟨by rw [cell_of_row _ _ 0 _ _ _ h]; rfl, by rw [cell_of_row _ _ 1 _ _ _ h]; rfl, by rw [cell_of_row _ _ 2 _ _ _ h]; rfl⟩
theorem Outside.undrew {S : Nat → Prop} {W W' : World} (h : Outside S W.drew W') : Outside S W W' := ⟨h.os, h.tape, h.output, h.size, h.block⟩
set_option maxHeartbeats 4000000 in
set_option maxRecDepth 100000 in
theorem step_any {T : Nat → Prop} {g1 g2 : Nat} {most : Int} {ls : List Lt} {ids : List Int} (w0 w : World) (hp : PairN T g1 g2 most ls ids w) (hb0 : Below w0.heap.size w0 w) (hT : ∀ b, T b → w0.heap.size ≤ b)
    (kd k f t : Int) (A : Option Addr) (bs : List UInt8) (c : Nat) (B : Option Addr) (is : List Int) (d : Nat) (hc : bs.length ≤ c) (hl : bs.length ≤ 140737488351232) (hA : Sees w0 A (u8s bs)) (hd : is.length ≤ d) (hl2 : is.length * 8 ≤ 140737488351232) (hB : Sees w0 B (is.map intV)) :
    Calls Try.prog 23 #[.pointer (some ⟨g1, 0, none⟩), .pointer (some ⟨g2, 0, none⟩), .agg #[.int .i64 kd, .int .i64 k, .int .i64 f, .int .i64 t, .slice A bs.length c, .slice B is.length d]] w (RetStep T g1 g2 most w) := by
  have HP := Lib.hid hp
  have HB0 := Lib.hid hb0
  have HT := Lib.hid hT
  have HA := Lib.hid hA
  have HB := Lib.hid hB
  clear hp hb0 hT hA hB
  go_enter Try.func23, Try.ntmps23
  go_upto_region 3 with (first
    | (go_at_call 12; refine (lawOwn_any f t A bs c _ hc hl ((HA.out.below HB0.out).below ((Below.refl _ _).alloc (Nat.le_refl _) _))).mono ?_; rintro e w6 ⟨A6, c6, rfl, hown6, hb6⟩)
    | fail)
  obtain ⟨W, hW⟩ : ∃ W, w6.alloc (.cells #[.int .i64 f, .int .i64 t, .slice A6 bs.length c6] 33) = W := ⟨_, rfl⟩
  have hal := (Below.refl w.heap.size w).alloc (Nat.le_refl _) (.cells #[.int .i64 kd, .int .i64 k, .int .i64 f, .int .i64 t, .slice A bs.length c, .slice B is.length d] 45)
  have hz6 := hb6.size
  simp at hz6
  have hbW : Below w.heap.size w W := by rw [← hW]; exact (below_step hal hal.size hb6).alloc (by omega) _
  have hown : W.ownsRow (w.heap.size + 1) 5 1 (.slice A6 bs.length c6) bs.length (u8s bs) := by rw [← hW]; exact own_lower (own_alloc' hown6 _) (by simp)
  have hob : ∀ b, (Value.slice A6 bs.length c6).ownBlock = some b → b < w6.heap.size := fun b hb => (own_block_ge hown6 b hb).2
  have xo : W.heap[w.heap.size]? = some (.cells #[.int .i64 kd, .int .i64 k, .int .i64 f, .int .i64 t, .slice A bs.length c, .slice B is.length d] 45 (0, 0)) := by rw [← hW]; exact (Below.heap_alloc _ _ _ (by omega)).trans ((hb6.block w.heap.size (by simp)).trans (heap_alloc_new w _))
  have xx : W.heap[w6.heap.size]? = some (.cells #[.int .i64 f, .int .i64 t, .slice A6 bs.length c6] 33 (0, 0)) := by rw [← hW]; exact heap_alloc_new w6 _
  rw [hW]
  obtain ⟨x6, hx6⟩ : ∃ x6, w6.heap.size = x6 := ⟨_, rfl⟩
  rw [hx6] at hob xx hz6 ⊢
  have HW := Lib.hid hbW
  have HOWN := Lib.hid hown
  have HOB := Lib.hid hob
  have XO := Lib.hid xo
  have XX := Lib.hid xx
  have HXW : Hid (x6 < W.heap.size) := Lib.hid (Array.getElem?_eq_some_iff.1 xx).1
  have HX6 : Hid (w.heap.size < x6) := Lib.hid (by omega)
  have HPW := Lib.hid (HP.out.cut.later hbW)
  clear hown6 hb6 hW hal hz6 hbW hown hob xo xx hx6
  have b0 := cell_of_row _ _ 0 _ _ _ XO.out
  have b1 := cell_of_row _ _ 1 _ _ _ XO.out
  have b2 := cell_of_row _ _ 2 _ _ _ XO.out
  have b3 := cell_of_row _ _ 3 _ _ _ XO.out
  have b4 := cell_of_row _ _ 4 _ _ _ XO.out
  have b5 := cell_of_row _ _ 5 _ _ _ XO.out
  have y0 := cell_of_row _ _ 0 _ _ _ XX.out
  have y1 := cell_of_row _ _ 1 _ _ _ XX.out
  have y2 := cell_of_row _ _ 2 _ _ _ XX.out
  simp at b0 b1 b2 b3 b4 b5 y0 y1 y2
  go_upto_block 0 with (fail)
  go_cut [7] (fun s7 wc => s7 = .bool true ∧ Stepped (Cut T w) g1 g2 most W wc)
  case first =>
    obtain ⟨S1, S2, hpair, hS⟩ := HPW.out
    have HPR := Lib.hid hpair
    have HS := Lib.hid hS
    have HBW : Hid (∀ W', Outside (Cut T w) W W' → Below w0.heap.size w0 W') := Lib.hid fun W' ho => (HB0.out.trans (HW.out.mono HB0.out.size)).trans (ho.below (fun b hb => HT.out b hb.1) (Nat.le_trans HB0.out.size HW.out.size))
    have HFO : Hid (∀ W', Outside (Cut T w) W W' → _) := Lib.hid fun W' ho => cells6 ((ho.block w.heap.size (Array.getElem?_eq_some_iff.1 XO.out).1 (Cut.not (Nat.le_refl _))).trans XO.out)
    have HFX : Hid (∀ W', Outside (Cut T w) W W' → _) := Lib.hid fun W' ho => cells3 ((ho.block x6 HXW.out (Cut.not (by have := HX6.out; omega))).trans XX.out)
    have hd := Outside.drew (Outside.refl (Cut T w) W)
    have i1 := HFO.out _ hd
    have j1 := HFX.out _ hd
    have HSX : Hid (Sees W.drew A6 (u8s bs)) := Lib.hid (sees_own' (own_keep HOWN.out (Below.refl _ W).drew)).2.2.2
    have hc6 := (sees_own' HOWN.out).2.1
    have HN1 := Lib.hid (hpair.n.cut.below (Below.refl _ W).drew)
    have HF := Lib.hid hpair.fit
    have HOK := Lib.hid hpair.ok
    clear hpair hS hd
    by_cases h0 : kd = 0
    · subst h0
      obtain ⟨z, hz⟩ : ∃ z, sendE most ls.length (f, t, bs) = z := ⟨_, rfl⟩
      have hzz : (z == z) = true := by simp
      obtain ⟨ls2, hl2⟩ : ∃ ls2, (if sendE most ls.length (f, t, bs) = 0 then ls ++ [(f, t, bs)] else ls) = ls2 := ⟨_, rfl⟩
      have HZ := Lib.hid hz
      have HL2 := Lib.hid hl2
      clear hz hl2
      go_upto_region 5 with (fail)
      go_region_held3 (fun W' => (W'.cell? ⟨w.heap.size, 2, none⟩ = some (.int .i64 f) ∧ W'.cell? ⟨w.heap.size, 3, none⟩ = some (.int .i64 t) ∧ W'.cell? ⟨w.heap.size, 4, none⟩ = some (.slice A bs.length c)) ∧ (W'.cell? ⟨x6, 0, none⟩ = some (.int .i64 f) ∧ W'.cell? ⟨x6, 1, none⟩ = some (.int .i64 t) ∧ W'.cell? ⟨x6, 2, none⟩ = some (.slice A6 bs.length c6)))
        (first
          | exact ⟨⟨i1.2.2.1, i1.2.2.2.1, i1.2.2.2.2.1⟩, j1⟩
          | exact ⟨⟨i7.2.2.1, i7.2.2.2.1, i7.2.2.2.2.1⟩, j7⟩
          | exact ⟨⟨i8.2.2.1, i8.2.2.2.1, i8.2.2.2.2.1⟩, j8⟩
          | fail)
        (first
          | (go_simp; go_at_call 11; refine (send_any f t A6 bs c6 W.drew HN1.out HF.out.lo HF.out.hi HF.out.len hc6 (by omega) HSX.out).mono ?_; rintro e w7 ⟨rfl, hn7, ho7⟩; rw [HZ.out]; rw [HL2.out] at hn7; have ho7' := ho7.undrew; have hoo7 : Outside (Cut T w) W w7 := ho7'.mono (fun b _ hb => HS.out b (.inl hb.1)); have i7 := HFO.out w7 hoo7; have j7 := HFX.out w7 hoo7; have HR7 := Lib.hid (HPR.out.left ho7'); have HO7 := Lib.hid ho7'; have HOO7 := Lib.hid hoo7; have HN7 := Lib.hid hn7; clear hn7 ho7 ho7' hoo7)
          | (go_simp; go_at_call 9; refine (num_any _ _).mono ?_; rintro e w' ⟨rfl, rfl⟩)
          | (go_simp; go_at_call 31; refine (refsend_any f t A bs c w7 HR7.out HF.out.lo HF.out.hi HF.out.len hc (by omega) (HA.out.below (HBW.out _ HOO7.out))).mono ?_; rintro e w8 ⟨rfl, hr8, ho8⟩; rw [HZ.out]; rw [HL2.out] at hr8; have hoo8 : Outside (Cut T w) W w8 := HOO7.out.trans ho8 (fun b _ hb => HS.out b (.inr hb.1)); have i8 := HFO.out w8 hoo8; have j8 := HFX.out w8 hoo8; have HR8 := Lib.hid hr8; have HO8 := Lib.hid ho8; clear hr8 ho8 hoo8)
          | fail)
      go_wp2
      go_meet
      case rel =>
        have hst := HPR.out.stepN HS.out HN7.out HO7.out (Below.refl _ _) HR8.out HO8.out (by rw [← HL2.out]; exact Fit.sent HF.out _) HOK.out
        exact ⟨rfl, _, _, hst⟩
    by_cases h2 : kd = 2
    · subst h2
      obtain ⟨z, hz⟩ : ∃ z, atE k ls.length = z := ⟨_, rfl⟩
      have hzz : (z == z) = true := by simp
      obtain ⟨ls2, hl2⟩ : ∃ ls2, (if atE k ls.length = 0 then ls.eraseIdx k.toNat else ls) = ls2 := ⟨_, rfl⟩
      have HZ := Lib.hid hz
      have HL2 := Lib.hid hl2
      clear hz hl2
      go_upto_region 11 with (fail)
      go_region_held3 (fun W' => W'.cell? ⟨w.heap.size, 1, none⟩ = some (.int .i64 k))
        (first
          | exact i1.2.1
          | exact i7.2.1
          | exact i8.2.1
          | fail)
        (first
          | (go_simp; go_at_call 17; refine (lose_any k W.drew HN1.out (by have := HF.out.lo; omega)).mono ?_; rintro e w7 ⟨rfl, hn7, ho7⟩; rw [HZ.out]; rw [HL2.out] at hn7; have ho7' := ho7.undrew; have hoo7 : Outside (Cut T w) W w7 := ho7'.mono (fun b _ hb => HS.out b (.inl hb.1)); have i7 := HFO.out w7 hoo7; have j7 := HFX.out w7 hoo7; have HR7 := Lib.hid (HPR.out.left ho7'); have HO7 := Lib.hid ho7'; have HOO7 := Lib.hid hoo7; have HN7 := Lib.hid hn7; clear hn7 ho7 ho7' hoo7)
          | (go_simp; go_at_call 9; refine (num_any _ _).mono ?_; rintro e w' ⟨rfl, rfl⟩)
          | (go_simp; go_at_call 33; refine (reflose_any k w7 HR7.out (by have := HF.out.len; have := HF.out.hi; omega)).mono ?_; rintro e w8 ⟨rfl, hr8, ho8⟩; rw [HZ.out]; rw [HL2.out] at hr8; have hoo8 : Outside (Cut T w) W w8 := HOO7.out.trans ho8 (fun b _ hb => HS.out b (.inr hb.1)); have i8 := HFO.out w8 hoo8; have j8 := HFX.out w8 hoo8; have HR8 := Lib.hid hr8; have HO8 := Lib.hid ho8; clear hr8 ho8 hoo8)
          | fail)
      go_wp2
      go_meet
      case rel =>
        have hst := HPR.out.stepN HS.out HN7.out HO7.out (Below.refl _ _) HR8.out HO8.out (by rw [← HL2.out]; exact Fit.lost HF.out _) HOK.out
        exact ⟨rfl, _, _, hst⟩
    by_cases h3 : kd = 3
    · subst h3
      obtain ⟨z, hz⟩ : ∃ z, doubleE most ls k = z := ⟨_, rfl⟩
      have hzz : (z == z) = true := by simp
      obtain ⟨ls2, hl2⟩ : ∃ ls2, (if doubleE most ls k = 0 then ls ++ [lookL ls k] else ls) = ls2 := ⟨_, rfl⟩
      have HZ := Lib.hid hz
      have HL2 := Lib.hid hl2
      clear hz hl2
      go_upto_region 13 with (fail)
      go_region_held3 (fun W' => W'.cell? ⟨w.heap.size, 1, none⟩ = some (.int .i64 k))
        (first
          | exact i1.2.1
          | exact i7.2.1
          | exact i8.2.1
          | fail)
        (first
          | (go_simp; go_at_call 18; refine (double_any k W.drew HN1.out HF.out).mono ?_; rintro e w7 ⟨rfl, hn7, ho7⟩; rw [HZ.out]; rw [HL2.out] at hn7; have ho7' := ho7.undrew; have hoo7 : Outside (Cut T w) W w7 := ho7'.mono (fun b _ hb => HS.out b (.inl hb.1)); have i7 := HFO.out w7 hoo7; have j7 := HFX.out w7 hoo7; have HR7 := Lib.hid (HPR.out.left ho7'); have HO7 := Lib.hid ho7'; have HOO7 := Lib.hid hoo7; have HN7 := Lib.hid hn7; clear hn7 ho7 ho7' hoo7)
          | (go_simp; go_at_call 9; refine (num_any _ _).mono ?_; rintro e w' ⟨rfl, rfl⟩)
          | (go_simp; go_at_call 34; refine (refdouble_any k w7 HR7.out HF.out).mono ?_; rintro e w8 ⟨rfl, hr8, ho8⟩; rw [HZ.out]; rw [HL2.out] at hr8; have hoo8 : Outside (Cut T w) W w8 := HOO7.out.trans ho8 (fun b _ hb => HS.out b (.inr hb.1)); have i8 := HFO.out w8 hoo8; have j8 := HFX.out w8 hoo8; have HR8 := Lib.hid hr8; have HO8 := Lib.hid ho8; clear hr8 ho8 hoo8)
          | fail)
      go_wp2
      go_meet
      case rel =>
        have hst := HPR.out.stepN HS.out HN7.out HO7.out (Below.refl _ _) HR8.out HO8.out (by rw [← HL2.out]; exact Fit.doubled HF.out _) HOK.out
        exact ⟨rfl, _, _, hst⟩
    --K3END
    by_cases h5 : kd = 5
    · subst h5
      have hm : most ≠ 0 := by have := HF.out.lo; omega
      go_wp2_with (first
        | (go_at_call 24; refine (clear_any W HPR.out.n.cut hm).mono ?_; rintro e w7 ⟨rfl, hn7, ho7⟩; have HR7 := Lib.hid (HPR.out.left ho7); have HO7 := Lib.hid ho7; have HN7 := Lib.hid hn7; clear hn7 ho7)
        | (go_at_call 36; refine (refclear_any w7 HR7.out).mono ?_; rintro e w8 ⟨rfl, hr8, ho8⟩; have HR8 := Lib.hid hr8; have HO8 := Lib.hid ho8; clear hr8 ho8)
        | fail)
      go_meet
      case rel =>
        have hst := HPR.out.stepN HS.out HN7.out HO7.out (Below.refl _ _) HR8.out HO8.out (Fit.nil HF.out.lo HF.out.hi) HOK.out
        exact ⟨by simp, _, _, hst⟩
    by_cases h1 : kd = 1
    · subst h1
      obtain ⟨l, hlt⟩ : ∃ l, takeL (wallL ids) ls k = l := ⟨_, rfl⟩
      obtain ⟨z, hz⟩ : ∃ z, takeE (wallL ids) ls k = z := ⟨_, rfl⟩
      obtain ⟨ls2, hl2⟩ : ∃ ls2, takeN (wallL ids) ls k = ls2 := ⟨_, rfl⟩
      have hta := take_any k W HPR.out.n.cut HF.out
      rw [hlt, hz, hl2] at hta
      have HTA := Lib.hid hta
      have HLT := Lib.hid hlt
      have HZ := Lib.hid hz
      have HL2 := Lib.hid hl2
      clear hlt hz hl2 hta
      go_wp2_with (first
        | (go_at_call 13; refine HTA.out.mono ?_; rintro e w7 ⟨⟨A7, c7, rfl, hown7⟩, hn7, ho7⟩; have hba7 := (Below.refl w7.heap.size w7).alloc (Nat.le_refl _) (.cells #[.int .i64 l.1, .int .i64 l.2.1, .slice A7 l.2.2.length c7] 33); have i7 := HFO.out _ ((ho7.mono (T := Cut T w) (fun b _ hb => HS.out b (.inl hb.1))).trans (Outside.of_below (S := Cut T w) hba7) (fun b _ hb => hb)); have xb7 := heap_alloc_new w7 (.cells #[.int .i64 l.1, .int .i64 l.2.1, .slice A7 l.2.2.length c7] 33); have HR7 := Lib.hid ((HPR.out.left ho7).below hba7); have HO7 := Lib.hid ho7; have HN7 := Lib.hid hn7; have HOW7 := Lib.hid (own_keep hown7 hba7); have HXB7 := Lib.hid xb7; clear hn7 ho7 xb7 hba7 hown7)
        | (go_at_call 32; have hra := reftake_any k (w7.alloc (.cells #[.int .i64 l.1, .int .i64 l.2.1, .slice A7 l.2.2.length c7] 33)) HR7.out HF.out (wallL ids) (fun x _ => openL_eq HOK.out x); rw [HLT.out, HZ.out, HL2.out] at hra; refine hra.mono ?_; clear hra; rintro e w8 ⟨⟨A8, c8, rfl, hc8, hown8⟩, hr8, ho8⟩; have hba8 := (Below.refl w8.heap.size w8).alloc (Nat.le_refl _) (.cells #[.int .i64 l.1, .int .i64 l.2.1, .slice A8 l.2.2.length c8] 35); have hz7 := HO7.out.size; have hz8 := ho8.size; simp at hz8; have xb8 := (hba8.block w7.heap.size (by omega)).trans ((ho8.block w7.heap.size (by simp) (Cut.not hz7)).trans HXB7.out); have yb8 := heap_alloc_new w8 (.cells #[.int .i64 l.1, .int .i64 l.2.1, .slice A8 l.2.2.length c8] 35); have q7 := cells3 xb8; have q8 := cells3 yb8; have hs7 := (sees_own' (own_keep (own_same HOW7.out (fun b hb => ho8.block b (own_block_ge HOW7.out b hb).2 (Cut.not (own_block_ge HOW7.out b hb).1))) hba8)).2.2.2; have hs8 := (sees_own' (own_keep hown8 hba8)).2.2.2; have HS7 := Lib.hid hs7; have HS8 := Lib.hid hs8; have HR8 := Lib.hid hr8; have HO8 := Lib.hid ho8; have HBA8 := Lib.hid hba8; clear hr8 ho8 hs7 hs8 hba8 xb8 yb8 hown8 hz8 hz7)
        | (go_at_call 14; refine (same_any l.1 l.2.1 A7 A8 l.2.2 c7 c8 _ HS7.out HS8.out).mono ?_; rintro e w9 ⟨rfl, hb9⟩)
        | (go_at_call 9; refine (num_any _ _).mono ?_; rintro e w' ⟨rfl, rfl⟩)
        | fail)
      go_meet
      case rel =>
        have hst := HPR.out.stepN HS.out HN7.out HO7.out ((Below.refl w7.heap.size w7).alloc (Nat.le_refl _) _) HR8.out HO8.out (by rw [← HL2.out]; exact Fit.taken HF.out _ _) HOK.out
        have hb89 := below_step HBA8.out HBA8.out.size hb9
        exact ⟨by simp, _, _, hst.1.later hb89, hst.2.trans (Outside.of_below hb89) (fun b _ hb => hb)⟩
    by_cases h4 : kd = 4
    · subst h4
      obtain ⟨z, hz⟩ : ∃ z, wallE is = z := ⟨_, rfl⟩
      have hzz : (z == z) = true := by simp
      obtain ⟨ids2, hi2⟩ : ∃ ids2, (if wallE is = 0 then is else ids) = ids2 := ⟨_, rfl⟩
      have hw2 : (if wallE is = 0 then wallL is else wallL ids) = wallL ids2 := by rw [← hi2]; split <;> rfl
      have hok2 : ids2.all serverB = true := by
        rw [← hi2]
        split
        · rename_i he
          unfold wallE at he
          split at he
          · assumption
          · cases he
        · exact HOK.out
      have hm : most ≠ 0 := by have := HF.out.lo; omega
      have HZ := Lib.hid hz
      have HI2 := Lib.hid hi2
      have HW2 := Lib.hid hw2
      have HOK2 := Lib.hid hok2
      have hba0 : Below W.heap.size W (W.alloc (.cells #[] 3)).drew := ((Below.refl W.heap.size W).alloc (Nat.le_refl _) _).drew
      have hob0 : Outside (Cut T w) W (W.alloc (.cells #[] 3)).drew := Outside.of_below hba0
      have i2 := HFO.out _ hob0
      have HBA0 := Lib.hid hba0
      have HB2 : Hid (Sees (W.alloc (.cells #[] 3)).drew B (is.map intV)) := Lib.hid (HB.out.below (HBW.out _ hob0))
      have HI1 := Lib.hid (ints_one is)
      clear hz hi2 hw2 hok2 hba0 hob0
      go_upto_region 15 with (fail)
      go_region_held3 (fun W' => W'.cell? ⟨w.heap.size, 5, none⟩ = some (.slice B is.length d))
        (first
          | exact i1.2.2.2.2.2
          | exact i2.2.2.2.2.2
          | exact i4.2.2.2.2.2
          | exact i7.2.2.2.2.2
          | exact i8.2.2.2.2.2
          | fail)
        (first
          | (refine step_append_sees rfl (.tmp 87) (.tmp 89) 43 (by rfl) W.heap.size 3 (.int .i64 0) 1 8 Try.underlying43 infoInt rfl (by decide) (.slice (some ⟨W.heap.size, 0, none⟩) 0 0) 0 [] (by rfl) (by exact own_made0 W _ 1) B is.length d (is.map intV) (by rfl) (by simp) (by exact HB2.out) HI1.out (by simp only [maxLen]; omega) (by omega) (by simp) ?_; intro A4 c4 w4 hown4' hg4 hat4; have hb4 : Below W.heap.size W w4 := below_grown_own HBA0.out (by simp) (own_made0 W 3 1) (Nat.le_refl _) hg4; have hown4 : w4.ownsRow W.heap.size 3 1 (.slice A4 is.length c4) is.length (is.map intV) := (by simpa using hown4'); have i4 := HFO.out w4 (Outside.of_below hb4); have hs4 := sees_own' hown4; have HS4 := Lib.hid hs4; have HB4 := Lib.hid hb4; clear hown4' hown4 hg4 hat4 hs4 hb4)
          | (go_simp; go_at_call 19; refine (wall_any A4 c4 is w4 (HPR.out.n.cut.below HB4.out) hm HS4.out.2.1 (by omega) HS4.out.2.2.2).mono ?_; rintro e w7 ⟨rfl, hn7, ho7⟩; rw [HZ.out]; rw [HW2.out] at hn7; have hoo4 : Outside (Cut S1 W) W w7 := (Outside.of_below (S := Cut S1 W) HB4.out).trans ho7 (fun b _ hb => hb); have hoo7 : Outside (Cut T w) W w7 := hoo4.mono (fun b _ hb => HS.out b (.inl hb.1)); have i7 := HFO.out w7 hoo7; have HR7 := Lib.hid (HPR.out.left hoo4); have HO7 := Lib.hid hoo4; have HOO7 := Lib.hid hoo7; have HN7 := Lib.hid (hn7.mono (Plus.mono HB4.out.size)); clear hn7 ho7 hoo4 hoo7)
          | (go_simp; go_at_call 9; refine (num_any _ _).mono ?_; rintro e w' ⟨rfl, rfl⟩)
          | (go_simp; go_at_call 35; refine (refwall_any B d is w7 HR7.out hd (by omega) (HB.out.below (HBW.out _ HOO7.out))).mono ?_; rintro e w8 ⟨rfl, hr8, ho8⟩; rw [HZ.out]; rw [HI2.out] at hr8; have hoo8 : Outside (Cut T w) W w8 := HOO7.out.trans ho8 (fun b _ hb => HS.out b (.inr hb.1)); have i8 := HFO.out w8 hoo8; have HR8 := Lib.hid hr8; have HO8 := Lib.hid ho8; clear hr8 ho8 hoo8)
          | fail)
      go_wp2
      go_meet
      case rel =>
        have hst := HPR.out.stepN HS.out HN7.out HO7.out (Below.refl _ _) HR8.out HO8.out HF.out HOK2.out
        exact ⟨rfl, _, _, hst⟩
    go_wp2
    go_meet
    case rel => exact ⟨rfl, _, _, HPW.out.cut.mono (fun b hb => .inl hb), Outside.refl _ _⟩
  case rest =>
    obtain ⟨rfl, ls', ids', hpn, ho⟩ := hcut
    have HPN := Lib.hid hpn
    have HO := Lib.hid ho
    have HOX : Hid (wc.ownsRow (w.heap.size + 1) 5 1 (.slice A6 bs.length c6) bs.length (u8s bs)) := Lib.hid (own_same HOWN.out (fun b hb => ho.block b (own_block_ge HOWN.out b hb).2 (fun h => Nat.lt_irrefl _ (Nat.lt_of_lt_of_le h.1.2 (Nat.le_of_succ_le (own_block_ge HOWN.out b hb).1)))))
    have HXX : Hid (wc.heap[x6]? = some (.cells #[.int .i64 f, .int .i64 t, .slice A6 bs.length c6] 33 (0, 0))) := Lib.hid ((ho.block x6 HXW.out (fun h => by have := h.1.2; have := HX6.out; omega)).trans XX.out)
    have HXO : Hid (wc.heap[w.heap.size]? = _) := Lib.hid ((ho.block w.heap.size (Array.getElem?_eq_some_iff.1 XO.out).1 (fun h => Nat.lt_irrefl _ h.1.2)).trans XO.out)
    have hx2 := (cells3 HXX.out).2.2
    clear hpn ho
    go_wp2_with fail
    go_loopw [13] (fun v wr => ByteLoop (w.heap.size + 1) wc A6 bs.length c6 v wr) (fun j _ => bs.length - (intOf j).toNat)
    case atStart => exact ⟨0, bs, rfl, Nat.zero_le _, rfl, HOX.out, Outside.refl _ _⟩
    case round =>
      obtain ⟨j, bs', rfl, hj, hbl, hox, hor⟩ := hrel
      have hxr := (hor.block x6 (Array.getElem?_eq_some_iff.1 HXX.out).1 (fun e => Nat.lt_irrefl _ (HOB.out _ e))).trans HXX.out
      have r2 := (cells3 hxr).2.2
      by_cases hjl : j < bs.length
      · obtain ⟨_, g, rfl, hg, hgl⟩ := own_pos hox (by omega)
        have hfz := own_fz hox j
        obtain ⟨y, hy⟩ : ∃ y : UInt8, wr.cell? ⟨g, j, none⟩ = some (.int .u8 (y.toNat : Int)) := by
          obtain ⟨ad, e, h2⟩ := u8_at (sees_own' hox).2.2.2 j (by omega)
          cases e
          rw [add_base] at h2
          exact ⟨_, h2⟩
        obtain ⟨y', hy'⟩ := u8_next y
        have r2d : wr.drew.cell? ⟨x6, 2, none⟩ = _ := r2
        have hyd : wr.drew.cell? ⟨g, j, none⟩ = _ := hy
        have hfd : wr.drew.frozen? ⟨g, j, none⟩ = false := hfz
        have hnew := own_set8 hox j y'
        have HNEW := Lib.hid hnew
        have HOR := Lib.hid hor
        have HJ : Hid (j < bs'.length) := Lib.hid (by omega)
        have hji : (j : Int) < (bs.length : Int) := by omega
        clear hnew hox hor hxr
        go_wp2_with (fail)
        go_region_law (fail)
        all_goals go_wp2
        all_goals go_roundw
        all_goals first
          | (refine ⟨j + 1, bs'.set j y', by go_num, by omega, by rw [List.length_set]; exact hbl, ?_, ?_⟩
             · first
               | exact HNEW.out
               | exact own_same HNEW.out (fun _ _ => rfl)
             · first
               | exact HOR.out.set ⟨g, j, none⟩ _ (.inr rfl)
               | exact (HOR.out.set ⟨g, j, none⟩ _ (.inr rfl)).drew)
          | (simp [intOf]; omega)
      · obtain rfl : j = bs.length := by omega
        have hpr : PairN (Plus (Cut (Cut T w) W) W) g1 g2 most ls' ids' wr := HPN.out.keep fun b hb hs => hor.block b hb (fun e => hs.elim (fun h1 => by have := (own_block_ge HOWN.out b e).1; have := h1.1.2; omega) (fun h1 => by have := HOB.out b e; have := HXW.out; omega))
        have hxo := (hor.block w.heap.size (Array.getElem?_eq_some_iff.1 HXO.out).1 (fun e => by have := (own_block_ge HOWN.out _ e).1; omega)).trans HXO.out
        have how : Outside (Cut T w) w wr := ((Outside.of_below (S := Cut T w) HW.out).trans HO.out (fun b _ hb => hb.1)).trans hor (fun b hb e => by have := (own_block_ge HOWN.out b e).1; omega)
        have i0 := cells6 hxo
        have HPRR := Lib.hid hpr
        have HXOR := Lib.hid hxo
        have HOWR := Lib.hid how
        have HZW : Hid (W.heap.size ≤ wr.heap.size) := Lib.hid (Nat.le_trans HO.out.size hor.size)
        clear hpr hxo how hor hox hxr
        go_upto_region 22 with (fail)
        clear r2
        obtain ⟨l, hlk⟩ : ∃ l, lookL ls' k = l := ⟨_, rfl⟩
        obtain ⟨z, hz⟩ : ∃ z, atE k ls'.length = z := ⟨_, rfl⟩
        obtain ⟨S1, S2, hpair, hS⟩ := HPRR.out
        have hln := look_any k wr hpair.n (by have := hpair.fit.lo; omega) hpair.fit.bytes
        rw [hlk, hz] at hln
        have HLN := Lib.hid hln
        have HPAIR := Lib.hid hpair
        have HLK := Lib.hid hlk
        have HZ := Lib.hid hz
        have HS := Lib.hid hS
        clear hln hpair hlk hz hS
        go_upto_region 24 with (first
          | (go_at_call 16; refine HLN.out.mono ?_; rintro e w3 ⟨A3, c3, rfl, hown3, hb3⟩; have hba3 := below_step hb3 hb3.size ((Below.refl w3.heap.size w3).alloc (Nat.le_refl _) (.cells #[.int .i64 l.1, .int .i64 l.2.1, .slice A3 l.2.2.length c3] 33)); have i3 := cells6 ((hba3.block w.heap.size (Array.getElem?_eq_some_iff.1 HXOR.out).1).trans HXOR.out); have xb3 := heap_alloc_new w3 (.cells #[.int .i64 l.1, .int .i64 l.2.1, .slice A3 l.2.2.length c3] 33); have HXB3 := Lib.hid xb3; have HBA3 := Lib.hid hba3; have HOW3 := Lib.hid hown3; clear xb3 hba3 hown3)
          | (go_at_call 37; have hlr := reflook_any k _ (HPAIR.out.r.below HBA3.out); rw [HLK.out, HZ.out] at hlr; refine hlr.mono ?_; clear hlr; rintro e w4 ⟨A4, c4, rfl, hc4, hown4, hb4⟩)
          | fail)
        have hba4 := (Below.refl w4.heap.size w4).alloc (Nat.le_refl _) (.cells #[.int .i64 l.1, .int .i64 l.2.1, .slice A4 l.2.2.length c4] 35)
        obtain ⟨W3, hW3⟩ : ∃ W3, w3.alloc (.cells #[.int .i64 l.1, .int .i64 l.2.1, .slice A3 l.2.2.length c3] 33) = W3 := ⟨_, rfl⟩
        rw [hW3] at hb4
        have HB34 : Hid (Later W3 (w4.alloc (.cells #[.int .i64 l.1, .int .i64 l.2.1, .slice A4 l.2.2.length c4] 35))) := Lib.hid (later_step hb4 hba4)
        have HXD4 := Lib.hid (heap_alloc_new w4 (.cells #[.int .i64 l.1, .int .i64 l.2.1, .slice A4 l.2.2.length c4] 35))
        have HOW4 := Lib.hid (own_keep hown4 hba4)
        have HB3 := Lib.hid HBA3.out
        have HX3 := Lib.hid HXB3.out
        have HO3 := Lib.hid (own_alloc' HOW3.out (.cells #[.int .i64 l.1, .int .i64 l.2.1, .slice A3 l.2.2.length c3] 33))
        rw [hW3] at HB3 HX3 HO3
        obtain ⟨W4, hW4⟩ : ∃ W4, w4.alloc (.cells #[.int .i64 l.1, .int .i64 l.2.1, .slice A4 l.2.2.length c4] 35) = W4 := ⟨_, rfl⟩
        rw [hW4] at HB34 HXD4 HOW4 ⊢
        have HL4 : Hid (Later wr W4) := Lib.hid (below_step HB3.out HB3.out.size HB34.out)
        have HP4 := Lib.hid (HPAIR.out.later HL4.out)
        obtain ⟨Ar, cr, cells, Br, dr, hrr⟩ := HP4.out.r
        have HRR := Lib.hid hrr
        have HS3 : Hid (Sees W4 A3 (u8s l.2.2)) := Lib.hid ((sees_own' HO3.out).2.2.2.below HB34.out)
        have HS4 : Hid (Sees W4 A4 (u8s l.2.2)) := Lib.hid (sees_own' HOW4.out).2.2.2
        have HX4 : Hid (W4.heap[w3.heap.size]? = _) := Lib.hid ((HB34.out.block _ (Array.getElem?_eq_some_iff.1 HX3.out).1).trans HX3.out)
        have HO4 : Hid (W4.heap[w.heap.size]? = _) := Lib.hid ((HL4.out.block _ (Array.getElem?_eq_some_iff.1 HXOR.out).1).trans HXOR.out)
        have hk : ∀ W', Later W4 W' → ((W'.cell? ⟨w.heap.size, 1, none⟩ = some (.int .i64 k) ∧ W'.cell? ⟨w.heap.size, 2, none⟩ = some (.int .i64 f) ∧ W'.cell? ⟨w.heap.size, 3, none⟩ = some (.int .i64 t) ∧ W'.cell? ⟨w.heap.size, 4, none⟩ = some (.slice A bs.length c)) ∧ (W'.cell? ⟨w3.heap.size, 0, none⟩ = some (.int .i64 l.1) ∧ W'.cell? ⟨w3.heap.size, 1, none⟩ = some (.int .i64 l.2.1) ∧ W'.cell? ⟨w3.heap.size, 2, none⟩ = some (.slice A3 l.2.2.length c3)) ∧ (W'.cell? ⟨w4.heap.size, 0, none⟩ = some (.int .i64 l.1) ∧ W'.cell? ⟨w4.heap.size, 1, none⟩ = some (.int .i64 l.2.1) ∧ W'.cell? ⟨w4.heap.size, 2, none⟩ = some (.slice A4 l.2.2.length c4)) ∧ W'.cell? ⟨g2, 1, none⟩ = some (.slice Ar ls'.length cr)) := by
          intro W' hb
          have a1 := cells6 ((hb.block _ (Array.getElem?_eq_some_iff.1 HO4.out).1).trans HO4.out)
          have a2 := cells3 ((hb.block _ (Array.getElem?_eq_some_iff.1 HX4.out).1).trans HX4.out)
          have a3 := cells3 ((hb.block _ (Array.getElem?_eq_some_iff.1 HXD4.out).1).trans HXD4.out)
          have a4 := (ref_cells ((hb.block _ (Array.getElem?_eq_some_iff.1 HRR.out.row).1).trans HRR.out.row)).2.1
          exact ⟨⟨a1.2.1, a1.2.2.1, a1.2.2.2.1, a1.2.2.2.2.1⟩, a2, a3, a4⟩
        have HK := Lib.hid hk
        have m1 := hk W4.drew (Below.refl _ _).drew
        have HBW4 : Hid (Below w0.heap.size w0 W4) := Lib.hid ((HB0.out.trans (HOWR.out.below (fun b hb => HT.out b hb.1) HB0.out.size)).trans (HL4.out.mono (Nat.le_trans HB0.out.size HOWR.out.size)))
        have HHA : Hid (Sees W4 A (u8s bs)) := Lib.hid (HA.out.below HBW4.out)
        obtain ⟨nx, hnx⟩ : ∃ nx, nextN (wallL ids') ls' k.toNat = nx := ⟨_, rfl⟩
        obtain ⟨op, hop⟩ : ∃ op, openB (wallL ids') f t bs.length = op := ⟨_, rfl⟩
        have hopr := open_eq HP4.out.ok f t bs.length
        rw [hop] at hopr
        have HNX := Lib.hid hnx
        have HOP := Lib.hid hop
        have HOPR := Lib.hid hopr
        have hlb := HP4.out.fit.bytes
        have HLB := Lib.hid hlb
        have hl1 : 1 ≤ most := HP4.out.fit.lo
        have hl2' : most ≤ 10000 := HP4.out.fit.hi
        have hl3 : (ls'.length : Int) ≤ most := HP4.out.fit.len
        clear hnx hop hopr hlb hk hba4 hb4 hown4 hb3 hrr i3 hW3 hW4 i0
        go_region_held3 (fun W' => ((W'.cell? ⟨w.heap.size, 1, none⟩ = some (.int .i64 k) ∧ W'.cell? ⟨w.heap.size, 2, none⟩ = some (.int .i64 f) ∧ W'.cell? ⟨w.heap.size, 3, none⟩ = some (.int .i64 t) ∧ W'.cell? ⟨w.heap.size, 4, none⟩ = some (.slice A bs.length c)) ∧ (W'.cell? ⟨w3.heap.size, 0, none⟩ = some (.int .i64 l.1) ∧ W'.cell? ⟨w3.heap.size, 1, none⟩ = some (.int .i64 l.2.1) ∧ W'.cell? ⟨w3.heap.size, 2, none⟩ = some (.slice A3 l.2.2.length c3)) ∧ (W'.cell? ⟨w4.heap.size, 0, none⟩ = some (.int .i64 l.1) ∧ W'.cell? ⟨w4.heap.size, 1, none⟩ = some (.int .i64 l.2.1) ∧ W'.cell? ⟨w4.heap.size, 2, none⟩ = some (.slice A4 l.2.2.length c4)) ∧ W'.cell? ⟨g2, 1, none⟩ = some (.slice Ar ls'.length cr)))
          (first
            | exact m1
            | exact HK.out _ hb5
            | exact HK.out _ hb6
            | exact HK.out _ hb7
            | exact HK.out _ hb8
            | exact HK.out _ hb9
            | exact HK.out _ hb10
            | fail)
          (first
            | (go_simp; go_at_call 14; refine (same_any l.1 l.2.1 A3 A4 l.2.2 c3 c4 W4.drew (HS3.out.below (Below.refl _ _).drew) (HS4.out.below (Below.refl _ _).drew)).mono ?_; rintro e w5 ⟨rfl, hb5'⟩; have hb5 : Later W4 w5 := later_step (Below.refl W4.heap.size W4).drew hb5'; clear hb5')
            | (go_simp; go_at_call 9; refine (num_any _ _).mono ?_; rintro e w' ⟨rfl, rfl⟩)
            | (go_simp; go_at_call 15; refine (len_any w5 (HP4.out.n.below hb5) (by omega)).mono ?_; rintro e w' ⟨rfl, rfl⟩)
            | (go_simp; go_at_call 20; refine (next_any k w5 (HP4.out.n.below hb5) (by omega) HLB.out (by omega)).mono ?_; rintro e w6 ⟨rfl, hb6'⟩; rw [HNX.out]; have hb6 : Later W4 w6 := later_step hb5 hb6'; clear hb6')
            | (go_simp; go_at_call 38; refine (refnext_any k w6 (HP4.out.r.below hb6) (by omega) HLB.out (wallL ids') (fun x _ => openL_eq HP4.out.ok x)).mono ?_; rintro e w7 ⟨rfl, hb7'⟩; rw [HNX.out]; have hb7 : Later W4 w7 := later_step hb6 hb7'; clear hb7')
            | (go_simp; go_at_call 12; refine (lawOwn_any f t A bs c w7 hc hl (HHA.out.below hb7)).mono ?_; rintro e w8 ⟨A8, c8, rfl, hown8, hb8'⟩; have hb8 : Later W4 w8 := later_step hb7 hb8'; clear hb8' hown8)
            | (go_simp; go_at_call 21; refine (open_any f t A8 bs.length c8 w8 (HP4.out.n.below hb8) (by omega) (by omega)).mono ?_; rintro e w9 ⟨rfl, hb9'⟩; rw [HOP.out]; have hb9 : Later W4 w9 := later_step hb8 hb9'; clear hb9')
            | (go_simp; go_at_call 39; refine (refopen_any f t A bs.length c w9 (HP4.out.r.below hb9) (by omega)).mono ?_; rintro e w10 ⟨rfl, hb10'⟩; rw [HOPR.out]; have hb10 : Later W4 w10 := later_step hb9 hb10'; clear hb10')
            | fail)
        have HL10 : Hid (Below wr.heap.size wr w10) := Lib.hid (below_step HL4.out HL4.out.size hb10)
        have HOA : Hid (w10.ownsRow wr.heap.size 5 1 (.slice A3 l.2.2.length c3) l.2.2.length (u8s l.2.2)) := Lib.hid (own_keep (own_keep HO3.out HB34.out) hb10)
        have HXA : Hid (w10.heap[w3.heap.size]? = some (.cells #[.int .i64 l.1, .int .i64 l.2.1, .slice A3 l.2.2.length c3] 33 (0, 0))) := Lib.hid ((hb10.block _ (Array.getElem?_eq_some_iff.1 HX4.out).1).trans HX4.out)
        have HOBA : Hid (∀ b, (Value.slice A3 l.2.2.length c3).ownBlock = some b → b < w3.heap.size) := Lib.hid fun b hb => (own_block_ge HOW3.out b hb).2
        obtain ⟨x3, hx3⟩ : ∃ x3, w3.heap.size = x3 := ⟨_, rfl⟩
        rw [hx3] at HXA HOBA ⊢
        obtain ⟨n3, hn3⟩ : ∃ n3, l.2.2.length = n3 := ⟨_, rfl⟩
        have hn3u : (u8s l.2.2).length = n3 := by rw [u8s_length, hn3]
        have HN3 := Lib.hid hn3
        have hx2a := (cells3 HXA.out).2.2
        rw [hn3] at HOA HXA HOBA hx2a
        clear hx3 m1 hn3u hj hb5 hb6 hb7 hb8 hb9
        rw [hn3]
        clear hn3
        go_wp2_with fail
        have hn3b : n3 ≤ 9223372036854775807 := by have h1 := (sees_own' HOA.out).2.1; have h2 := (sees_own' HOA.out).2.2.1; unfold maxLen at h2; omega
        obtain ⟨wo, rfl⟩ : ∃ wo : World, wo = wr := ⟨_, rfl⟩
        go_loopw [18] (fun v wy => ByteLoop wo.heap.size w10 A3 n3 c3 v wy) (fun j _ => n3 - (intOf j).toNat)
        case atStart => exact ⟨0, l.2.2, rfl, Nat.zero_le _, HN3.out, HOA.out, Outside.refl _ _⟩
        case round =>
          obtain ⟨j, bs', rfl, hj, hbl, hox, hor⟩ := hrel
          have hxr := (hor.block x3 (Array.getElem?_eq_some_iff.1 HXA.out).1 (fun e => Nat.lt_irrefl _ (HOBA.out _ e))).trans HXA.out
          have r2 := (cells3 hxr).2.2
          by_cases hjl : j < n3
          · obtain ⟨_, g, rfl, hg, hgl⟩ := own_pos hox (by omega)
            have hfz := own_fz hox j
            obtain ⟨y, hy⟩ : ∃ y : UInt8, wr.cell? ⟨g, j, none⟩ = some (.int .u8 (y.toNat : Int)) := by
              obtain ⟨ad, e, h2⟩ := u8_at (sees_own' hox).2.2.2 j (by omega)
              cases e
              rw [add_base] at h2
              exact ⟨_, h2⟩
            have hnew := own_set8 hox j 0
            have HNEW := Lib.hid hnew
            have HOR := Lib.hid hor
            have HJ : Hid (j < bs'.length) := Lib.hid (by omega)
            have hji : (j : Int) < (n3 : Int) := by omega
            clear hnew hox hor hxr
            go_wp2_with (fail)
            go_roundw
            case rel =>
              refine ⟨j + 1, bs'.set j 0, by go_num, by omega, by rw [List.length_set]; exact hbl, ?_, ?_⟩
              · exact HNEW.out
              · exact HOR.out.set ⟨g, j, none⟩ _ (.inr rfl)
            case measure => simp [intOf]; omega
          · obtain rfl : j = n3 := by omega
            have hbl2 : Below wo.heap.size wo wr := HL10.out.trans (hor.below (fun b hb => (own_block_ge HOA.out b hb).1) HL10.out.size)
            have hst : Stepped T g1 g2 most w wr := ⟨ls', ids', ((show PairN (Plus (Cut (Cut T w) W) W) g1 g2 most ls' ids' wo from ⟨S1, S2, HPAIR.out, HS.out⟩).later hbl2).mono (fun b hb => hb.elim (fun h1 => .inl h1.1) (fun h1 => .inr (Nat.le_trans HW.out.size h1))), HOWR.out.trans (Outside.of_below hbl2) (fun b _ hb => hb)⟩
            have HST := Lib.hid hst
            clear hst hbl2 hor hox hxr
            go_wp2_with (fail)
            go_ret
            exact ⟨rfl, HST.out⟩
end Go.Proofs.Ytfhmdphcgcmaeaa
