/-
  A server alone: it has won.
-/
import Derived.Test.YtoongmoajnedlaaGreatLoneA
import Derived.Test.YtoongmoajnedlaaGreatVote
import Derived.Test.YtoongmoajnedlaaGreatTimA
import Derived.RegionTactic
import Derived.BigRegion
set_option linter.unusedVariables false
set_option linter.unusedSimpArgs false
namespace Go.Proofs.YtoongmoajnedlaaGreat
open Go.RowKit Go.Maps

theorem common_self (x : Int) : C.commonN [x] [x] = 1 := by simp [C.commonN, C.hasB]
section
variable {b0 r : Nat} {s : RSt} {ops : List Value}
theorem won_self (A B : Option Addr) (x : Int) (c d : Nat) (w : World) (hc : 1 ≤ c) (hd : 1 ≤ d) (hA : Sees w A [.int .i64 x]) (hB : Sees w B [.int .i64 x]) (hwf : (Lit.int .i64 x).wf = true) :
    Calls Tryz.prog 138 #[.slice A 1 c, .slice B 1 d] w (fun e w' => e = .returned (.bool true) ∧ Below w.heap.size w w') := by
  have h := C.won_any A B [x] [x] c d w hc hd (by simp) (by simp) hA hB (by simpa using hwf) (by simpa using hwf) (by simp)
  rw [common_self] at h
  exact h
set_option maxRecDepth 16384 in
set_option maxHeartbeats 4000000 in
theorem counted_two (d : Int) (Y : Option Addr) (cy : Nat) (P : World → Prop) (w : World) (h : Lone w b0 r s [] ops) (his : s.is = [s.id]) (hr : s.role = 2) (hy : s.yes = .slice Y 1 cy) (hcy : 1 ≤ cy) (hsy : Sees w Y [.int .i64 s.id]) (hwf : (Lit.int .i64 s.id).wf = true)
    (hB : ∀ w', Below w.heap.size w w' → Calls Tryz.prog 158 #[.pointer (some ⟨r, 0, none⟩)] w' (fun e w'' => e = .returned (.tuple #[]) ∧ P w'')) :
    Calls Tryz.prog 115 #[.pointer (some ⟨r, 0, none⟩), .int .i64 d] w (fun e w'' => e = .returned (.tuple #[]) ∧ P w'') := by
  have HS := Lib.hid (fun w' (hb : Below w.heap.size w w') => servers_any w' (h.below hb).logAt)
  rw [his] at HS
  have hrl := h.at_.lt
  have c23 : w.cell? ⟨r, 23, none⟩ = some (.slice Y 1 cy) := h.at_.cell (by rw [← hy]; rfl)
  have c20 : w.cell? ⟨r, 20, none⟩ = some (.int .i64 2) := h.at_.cell (by rw [← hr]; rfl)
  obtain ⟨id, hid⟩ : ∃ id, s.id = id := ⟨_, rfl⟩
  rw [hid] at HS hsy hwf
  have HK : Hid (∀ W', Below w.heap.size w W' → W'.cell? ⟨r, 23, none⟩ = some (.slice Y 1 cy) ∧ W'.cell? ⟨r, 20, none⟩ = some (.int .i64 2)) := Lib.hid (fun W' hb => ⟨(hb.cell hrl).trans c23, (hb.cell hrl).trans c20⟩)
  have HSY := Lib.hid (fun W' (hb : Below w.heap.size w W') => hsy.below hb)
  have HWF := Lib.hid hwf
  have HCY := Lib.hid hcy
  have HBG := Lib.hid hB
  clear h his hr hy hsy hwf hrl hid hcy hB
  have bd : Below w.heap.size w w.drew := (Below.refl _ _).drew
  go_enter Tryz.func115, Tryz.ntmps115
  go_upto_region 0 with fail
  clear c20
  go_region_held3 (fun W' => W'.cell? ⟨r, 23, none⟩ = some (.slice Y 1 cy))
    (first
      | (exact (HK.out _ (by assumption)).1)
      | fail)
    (first
      | (go_at_call 57; refine (HS.out _ (by assumption)).mono ?_; rintro e w3 ⟨A3, c3, rfl, hown3, hb3⟩; have hb3' := below_step (show Below w.heap.size w w.drew by assumption) (Nat.le_refl _) hb3; have hs3 := (sees_own' hown3).2.2.2; have hc3 := (sees_own' hown3).2.1; have HS3 := Lib.hid hs3; have HC3 := Lib.hid hc3; clear hown3 hs3 hc3 hb3 bd)
      | (go_at_call 138; refine (won_self A3 Y id c3 cy w3 HC3.out HCY.out HS3.out (HSY.out _ hb3') HWF.out).mono ?_; rintro e w4 ⟨rfl, hb4⟩; have hb4' := below_step hb3' hb3'.size hb4)
      | fail)
  have k20 := (HK.out _ hb4').2
  have HB4 := Lib.hid hb4'
  clear hb3' hb4 hb4' c23
  go_wp2_with (first
    | (go_at_call 158; refine (HBG.out _ HB4.out).mono ?_; rintro e w5 ⟨rfl, hp⟩; have HP := Lib.hid hp; clear hp)
    | fail)
  go_end0
  exact ⟨rfl, HP.out⟩
set_option maxRecDepth 16384 in
set_option maxHeartbeats 4000000 in
theorem counted_one (d : Int) (Y : Option Addr) (cy : Nat) (P : World → Prop) (w : World) (h : Lone w b0 r s [] ops) (his : s.is = [s.id]) (hr : s.role = 1) (hy : s.yes = .slice Y 1 cy) (hcy : 1 ≤ cy) (hsy : Sees w Y [.int .i64 s.id]) (hwf : (Lit.int .i64 s.id).wf = true)
    (hB : ∀ w', Below w.heap.size w w' → Calls Tryz.prog 59 #[.pointer (some ⟨r, 0, none⟩), .int .i64 2, .int .i64 d] w' (fun e w'' => e = .returned (.tuple #[]) ∧ P w'')) :
    Calls Tryz.prog 115 #[.pointer (some ⟨r, 0, none⟩), .int .i64 d] w (fun e w'' => e = .returned (.tuple #[]) ∧ P w'') := by
  have HS := Lib.hid (fun w' (hb : Below w.heap.size w w') => servers_any w' (h.below hb).logAt)
  rw [his] at HS
  have hrl := h.at_.lt
  have c23 : w.cell? ⟨r, 23, none⟩ = some (.slice Y 1 cy) := h.at_.cell (by rw [← hy]; rfl)
  have c20 : w.cell? ⟨r, 20, none⟩ = some (.int .i64 1) := h.at_.cell (by rw [← hr]; rfl)
  obtain ⟨id, hid⟩ : ∃ id, s.id = id := ⟨_, rfl⟩
  rw [hid] at HS hsy hwf
  have HK : Hid (∀ W', Below w.heap.size w W' → W'.cell? ⟨r, 23, none⟩ = some (.slice Y 1 cy) ∧ W'.cell? ⟨r, 20, none⟩ = some (.int .i64 1)) := Lib.hid (fun W' hb => ⟨(hb.cell hrl).trans c23, (hb.cell hrl).trans c20⟩)
  have HSY := Lib.hid (fun W' (hb : Below w.heap.size w W') => hsy.below hb)
  have HWF := Lib.hid hwf
  have HCY := Lib.hid hcy
  have HBG := Lib.hid hB
  clear h his hr hy hsy hwf hrl hid hcy hB
  have bd : Below w.heap.size w w.drew := (Below.refl _ _).drew
  go_enter Tryz.func115, Tryz.ntmps115
  go_upto_region 0 with fail
  clear c20
  go_region_held3 (fun W' => W'.cell? ⟨r, 23, none⟩ = some (.slice Y 1 cy))
    (first
      | (exact (HK.out _ (by assumption)).1)
      | fail)
    (first
      | (go_at_call 57; refine (HS.out _ (by assumption)).mono ?_; rintro e w3 ⟨A3, c3, rfl, hown3, hb3⟩; have hb3' := below_step (show Below w.heap.size w w.drew by assumption) (Nat.le_refl _) hb3; have hs3 := (sees_own' hown3).2.2.2; have hc3 := (sees_own' hown3).2.1; have HS3 := Lib.hid hs3; have HC3 := Lib.hid hc3; clear hown3 hs3 hc3 hb3 bd)
      | (go_at_call 138; refine (won_self A3 Y id c3 cy w3 HC3.out HCY.out HS3.out (HSY.out _ hb3') HWF.out).mono ?_; rintro e w4 ⟨rfl, hb4⟩; have hb4' := below_step hb3' hb3'.size hb4)
      | fail)
  have k20 := (HK.out _ hb4').2
  have HB4 := Lib.hid hb4'
  clear hb3' hb4 hb4' c23
  go_wp2_with (first
    | (go_at_call 59; refine (HBG.out _ HB4.out).mono ?_; rintro e w5 ⟨rfl, hp⟩; have HP := Lib.hid hp; clear hp)
    | fail)
  go_end0
  exact ⟨rfl, HP.out⟩
end
end Go.Proofs.YtoongmoajnedlaaGreat
/-
  A server alone: it stands.
-/
set_option linter.unusedVariables false
set_option linter.unusedSimpArgs false
namespace Go.Proofs.YtoongmoajnedlaaGreat
open Go.RowKit Go.Maps

section
variable {b0 r : Nat} {s : RSt} {ops : List Value}
theorem Lone.out {W W' : World} {cells : List Value} {g : Nat} {cnt lim least : Int} (h : Lone W b0 r s cells ops) (hg : TimerAt W g cnt lim least) (ho : Outside (· = g) W W') : Lone W' b0 r s cells ops := by
  have hne : r ≠ g := fun e => by
    have h1 := h.at_
    unfold RAt at h1
    unfold TimerAt at hg
    rw [e, hg] at h1
    injection h1 with h1
    injection h1 with _ h2
    exact absurd h2 (by decide)
  exact { h with
    at_ := h.at_.out ho hne
    log := own_same h.log (fun b hb => ho.block b (own_block_ge h.log b hb).2 (fun e => own_far h.log hg (by decide) (e ▸ hb)))
    ops := own_same h.ops (fun b hb => ho.block b (own_block_ge h.ops b hb).2 (fun e => own_far h.ops hg (by decide) (e ▸ hb)))
    base := own_same h.base (fun b hb => ho.block b (own_block_ge h.base b hb).2 (fun e => own_far h.base hg (by decide) (e ▸ hb)))
    bz := Nat.le_trans h.bz ho.size }
theorem timer_far {W : World} {cells : List Value} {g : Nat} {cnt lim least : Int} (h : Lone W b0 r s cells ops) (hg : TimerAt W g cnt lim least) : g ≠ r := fun e => by
  have h1 := h.at_
  unfold RAt at h1
  unfold TimerAt at hg
  rw [← e, hg] at h1
  injection h1 with h1
  injection h1 with _ h2
  exact absurd h2 (by decide)
theorem Lone.far {W : World} {cells : List Value} {cs : Array Value} (h : Lone W b0 r s cells ops) (p : Addr) (v : Value) (hg : W.heap[p.block]? = some (.cells cs 34 (0, 0))) : Lone (W.setCell p v) b0 r s cells ops := by
  have hne : p.block ≠ r := fun e => by
    have h1 := h.at_
    unfold RAt at h1
    rw [← e, hg] at h1
    injection h1 with h1
    injection h1 with _ h2
    exact absurd h2 (by decide)
  exact ⟨h.at_.far p v hne, own_setFar h.log _ _ (own_far h.log hg (by decide)), own_setFar h.ops _ _ (own_far h.ops hg (by decide)), own_setFar h.base _ _ (own_far h.base hg (by decide)), h.head, h.n4, h.m4, h.l7, by simp [World.setCell]; exact h.bz⟩
theorem Lone.drew {W : World} {cells : List Value} (h : Lone W b0 r s cells ops) : Lone W.drew b0 r s cells ops := h.below (Below.refl _ _).drew
theorem last_none (A : Option Addr) (c : Nat) (w : World) : Calls Tryz.prog 110 #[.agg #[.int .i64 0, .int .i64 0, .slice A 0 c]] w (fun e w' => ∃ x y : Int, e = .returned (.tuple #[.int .i64 x, .int .i64 y]) ∧ Below w.heap.size w w') :=
  (lastof_any ⟨0, 0, []⟩ A 0 c w rfl (by decide) (SeenE.nil _ _) (fun x hx => by cases hx)).mono fun e w' ⟨h1, h2⟩ => ⟨_, _, h1, h2⟩
/-- A message that asks for a vote. -/
def MsgAt (W : World) (g : Nat) (t a b c : Int) : Prop := W.heap[g]? = some (.cells #[.int .i64 1, .int .i64 0, .int .i64 0, .int .i64 t, .int .i64 a, .int .i64 b, .int .i64 c, .int .i64 0, .bool false, .slice none 0 0, .slice none 0 0, .slice none 0 0] 34 (0, 0))
theorem MsgAt.set3 {W : World} {g : Nat} {t a b c : Int} (h : MsgAt W g t a b c) (x : Int) : MsgAt (W.setCell ⟨g, 3, none⟩ (.int .i64 x)) g x a b c := by
  unfold MsgAt at *
  simp [World.setCell, Array.getElem?_modify, h]
theorem MsgAt.set45 {W : World} {g : Nat} {t a b c : Int} (h : MsgAt W g t a b c) (x y : Int) : MsgAt ((W.setCell ⟨g, 4, none⟩ (.int .i64 x)).setCell ⟨g, 5, none⟩ (.int .i64 y)) g t x y c := by
  unfold MsgAt at *
  simp [World.setCell, Array.getElem?_modify, h]
theorem msg_cells {W : World} {g : Nat} {v0 v1 v2 v3 v4 v5 v6 v7 v8 v9 v10 v11 : Value} {ty : TypeId} (h : W.heap[g]? = some (.cells #[v0, v1, v2, v3, v4, v5, v6, v7, v8, v9, v10, v11] ty (0, 0))) :
    W.cell? ⟨g, 3, none⟩ = some v3 ∧ W.cell? ⟨g, 4, none⟩ = some v4 ∧ W.cell? ⟨g, 5, none⟩ = some v5 ∧ W.cell? ⟨g, 6, none⟩ = some v6 ∧ ∀ j, W.frozen? ⟨g, j, none⟩ = false :=
  ⟨by rw [cell_of_row _ _ 3 _ _ _ h]; rfl, by rw [cell_of_row _ _ 4 _ _ _ h]; rfl, by rw [cell_of_row _ _ 5 _ _ _ h]; rfl, by rw [cell_of_row _ _ 6 _ _ _ h]; rfl, frozen_of_cells h⟩
set_option maxRecDepth 16384 in
set_option maxHeartbeats 4000000 in
theorem stand_two (d cnt lim : Int) (w : World) (h : Lone w b0 r s [] ops) (hn : s.n = 0) (his : s.is = [s.id]) (ht : s.term = 0) (htm : TimerAt w s.tg cnt lim 6) (P : World → Prop)
    (hC : ∀ (w' : World) (Y : Option Addr) (cy : Nat), Lone w' b0 r { s with term := 1, voted := s.id, role := 2, leader := -1, yes := .slice Y 1 cy } [] ops → Sees w' Y [.int .i64 s.id] → 1 ≤ cy → TimerAt w' s.tg 0 (limitV 6 d) 6 → Outside (fun b => b = r ∨ b = s.tg) w w' →
      Calls Tryz.prog 115 #[.pointer (some ⟨r, 0, none⟩), .int .i64 d] w' (fun e w'' => e = .returned (.tuple #[]) ∧ P w'')) :
    Calls Tryz.prog 59 #[.pointer (some ⟨r, 0, none⟩), .int .i64 2, .int .i64 d] w (fun e w'' => e = .returned (.tuple #[]) ∧ P w'') := by
  obtain ⟨id, hid⟩ : ∃ id, s.id = id := ⟨_, rfl⟩
  obtain ⟨tg, htg⟩ : ∃ tg, s.tg = tg := ⟨_, rfl⟩
  obtain ⟨w1, hw1⟩ : ∃ w1, w.alloc (.cells #[.int .i64 1, .int .i64 0, .int .i64 0, .int .i64 0, .int .i64 0, .int .i64 0, .int .i64 0, .int .i64 0, .bool false, .slice none 0 0, .slice none 0 0, .slice none 0 0] 34) = w1 := ⟨_, rfl⟩
  obtain ⟨gm, hgm⟩ : ∃ gm, w.heap.size = gm := ⟨_, rfl⟩
  have hb1 : Below w.heap.size w w1 := by rw [← hw1]; exact (Below.refl _ _).alloc (Nat.le_refl _) _
  have h1 := h.below hb1
  have hm1 : w1.heap[gm]? = some (.cells #[.int .i64 1, .int .i64 0, .int .i64 0, .int .i64 0, .int .i64 0, .int .i64 0, .int .i64 0, .int .i64 0, .bool false, .slice none 0 0, .slice none 0 0, .slice none 0 0] 34 (0, 0)) := by rw [← hw1, ← hgm]; exact heap_alloc_new _ _
  have k18 : w1.cell? ⟨r, 18, none⟩ = some (.int .i64 0) := h1.at_.cell (by rw [← ht]; rfl)
  have k17 : w1.cell? ⟨r, 17, none⟩ = some (.int .i64 id) := h1.at_.cell (by rw [← hid]; rfl)
  have k19 : w1.cell? ⟨r, 19, none⟩ = some (.int .i64 s.voted) := h1.at_.cell rfl
  have k22 : w1.cell? ⟨r, 22, none⟩ = some (.pointer (some ⟨tg, 0, none⟩)) := h1.at_.cell (by rw [← htg]; rfl)
  have kf := h1.at_.frozen
  have HW1 := Lib.hid hw1
  have HGM := Lib.hid hgm
  have H := Lib.hid h
  have H1 := Lib.hid h1
  have HB1 := Lib.hid hb1
  have HM1 := Lib.hid hm1
  have HN := Lib.hid hn
  have HIS := Lib.hid his
  have HT := Lib.hid ht
  have HTM := Lib.hid htm
  have HCC := Lib.hid hC
  have HID := Lib.hid hid
  have HTG := Lib.hid htg
  clear hw1 hgm h h1 hb1 hm1 hn his ht htm hC hid htg
  go_enter Tryz.func59, Tryz.ntmps59
  go_upto_region 1 with fail
  rw [HW1.out]
  rw [HGM.out]
  go_upto_region 6 with fail
  have hgr : gm ≠ r := by have := H.out.at_.lt; have := HGM.out; omega
  have hgt : gm ≠ tg := by
    have := (Array.getElem?_eq_some_iff.1 HTM.out).1
    rw [HTG.out] at this
    have := HGM.out
    omega
  obtain ⟨w2, hw2⟩ : ∃ w2, (w1.setCell ⟨r, 18, none⟩ (.int .i64 1)).setCell ⟨r, 19, none⟩ (.int .i64 id) = w2 := ⟨_, rfl⟩
  have hl2 : Lone w2 b0 r { s with term := 1, voted := id } [] ops := by
    rw [← hw2]
    exact (H1.out.set 18 (.int .i64 1) { s with term := 1 } rfl rfl).set 19 (.int .i64 id) { s with term := 1, voted := id } rfl rfl
  have ht2 : TimerAt w2 tg cnt lim 6 := by
    have h9 := timer_far H.out HTM.out
    rw [HTG.out] at h9
    have h8 := HTM.out
    rw [HTG.out] at h8
    have h7 : TimerAt w1 tg cnt lim 6 := (HB1.out.block tg (Array.getElem?_eq_some_iff.1 h8).1).trans h8
    rw [← hw2]
    exact (Below.heap_setCell _ _ _ _ h9).trans ((Below.heap_setCell _ _ _ _ h9).trans h7)
  have hm2 : MsgAt w2 gm 0 0 0 0 := by
    rw [← hw2]
    exact (Below.heap_setCell _ _ _ _ hgr).trans ((Below.heap_setCell _ _ _ _ hgr).trans HM1.out)
  have ho2 : Outside (fun b => b = r ∨ b = s.tg) w w2 := by
    rw [← hw2]
    exact ((Outside.of_below HB1.out).set _ _ (.inr (.inl rfl))).set _ _ (.inr (.inl rfl))
  have k22 : w2.cell? ⟨r, 22, none⟩ = some (.pointer (some ⟨tg, 0, none⟩)) := hl2.at_.cell (by rw [← HTG.out]; rfl)
  have HL2 := Lib.hid hl2
  have HT2 := Lib.hid ht2
  have HM2 := Lib.hid hm2
  have HO2 := Lib.hid ho2
  have HGR := Lib.hid hgr
  have HGT := Lib.hid hgt
  rw [hw2]
  clear hw2 hl2 ht2 hm2 ho2 hgr hgt k18 k17 k19 kf
  go_upto_region 7 with (first
    | (go_at_call 55; refine (reset_any tg cnt lim 6 d w2 HT2.out (by decide) (by decide)).mono ?_; rintro e w3 ⟨rfl, ht3, ho3⟩; have HT3 := Lib.hid ht3; have HO3 := Lib.hid ho3; clear ht3 ho3)
    | fail)
  have hl3 := HL2.out.out HT2.out HO3.out
  have hm3 : MsgAt w3 gm 0 0 0 0 := (HO3.out.block gm (Array.getElem?_eq_some_iff.1 HM2.out).1 HGT.out).trans HM2.out
  have c18 : w3.cell? ⟨r, 18, none⟩ = some (.int .i64 1) := hl3.at_.cell (j := 18) rfl
  obtain ⟨e3, e4, e5, e6, ef⟩ := msg_cells hm3
  have HL3 := Lib.hid hl3
  have HM3 := Lib.hid hm3
  clear hl3 hm3 e4 e5 k22
  go_region
  obtain ⟨w4, hw4⟩ : ∃ w4, (w3.setCell ⟨gm, 3, none⟩ (.int .i64 1)).drew = w4 := ⟨_, rfl⟩
  have hl4 : Lone w4 b0 r { s with term := 1, voted := id } [] ops := by rw [← hw4]; exact (HL3.out.far ⟨gm, 3, none⟩ _ HM3.out).drew
  have hm4 : MsgAt w4 gm 1 0 0 0 := by rw [← hw4]; exact HM3.out.set3 1
  have ht4 : TimerAt w4 tg 0 (limitV 6 d) 6 := by rw [← hw4]; exact (Below.heap_setCell _ _ _ _ (fun e => HGT.out e.symm)).trans HT3.out
  have ho4 : Outside (fun b => b = r ∨ b = s.tg) w w4 := by
    rw [← hw4]
    refine ((HO2.out.trans HO3.out (fun b _ h => .inr (by rw [HTG.out]; exact h))).set _ _ (.inl ?_)).drew
    show w.heap.size ≤ gm
    rw [HGM.out]
    exact Nat.le_refl _
  rw [hw4]
  have k5 : w4.cell? ⟨r, 5, none⟩ = some (.int .i64 0) := hl4.at_.cell (j := 5) rfl
  have k6 : w4.cell? ⟨r, 6, none⟩ = some (.int .i64 0) := hl4.at_.cell (j := 6) rfl
  have k7 : w4.cell? ⟨r, 7, none⟩ = some (.slice s.A 0 s.c) := hl4.at_.cell (by rw [← HN.out]; rfl)
  have HL4 := Lib.hid hl4
  have HM4 := Lib.hid hm4
  have HT4 := Lib.hid ht4
  have HO4 := Lib.hid ho4
  clear hw4 hl4 hm4 ht4 ho4 c18 e3 e6 ef
  go_upto_region 9 with (first
    | (go_at_call 110; refine (last_none s.A s.c w4).mono ?_; rintro e w5 ⟨x, y, rfl, hb5⟩; have hm5 : MsgAt w5 gm 1 0 0 0 := (hb5.block gm (Array.getElem?_eq_some_iff.1 HM4.out).1).trans HM4.out; obtain ⟨f3, f4, f5, f6, ff⟩ := msg_cells hm5; have HB5 := Lib.hid hb5; have HM5 := Lib.hid hm5; clear hb5 hm5)
    | fail)
  obtain ⟨w6, hw6⟩ : ∃ w6, (w5.setCell ⟨gm, 4, none⟩ (.int .i64 x)).setCell ⟨gm, 5, none⟩ (.int .i64 y) = w6 := ⟨_, rfl⟩
  have hl6 : Lone w6 b0 r { s with term := 1, voted := id } [] ops := by
    rw [← hw6]
    have h9 := HL4.out.below HB5.out
    have h8 : ∃ cs, (w5.setCell ⟨gm, 4, none⟩ (.int .i64 x)).heap[gm]? = some (.cells cs 34 (0, 0)) := ⟨_, by simp [World.setCell, Array.getElem?_modify, show w5.heap[gm]? = _ from HM5.out]; rfl⟩
    obtain ⟨cs, h8⟩ := h8
    exact (h9.far ⟨gm, 4, none⟩ _ HM5.out).far ⟨gm, 5, none⟩ _ h8
  have ht6 : TimerAt w6 tg 0 (limitV 6 d) 6 := by
    rw [← hw6]
    exact (Below.heap_setCell _ _ _ _ (fun e => HGT.out e.symm)).trans ((Below.heap_setCell _ _ _ _ (fun e => HGT.out e.symm)).trans ((HB5.out.block tg (Array.getElem?_eq_some_iff.1 HT4.out).1).trans HT4.out))
  have ho6 : Outside (fun b => b = r ∨ b = s.tg) w w6 := by
    rw [← hw6]
    have hge : w.heap.size ≤ gm := by rw [HGM.out]; exact Nat.le_refl _
    exact ((HO4.out.trans (Outside.of_below (S := fun b => b = r ∨ b = s.tg) HB5.out) (fun _ _ h => h)).set _ _ (.inl hge)).set _ _ (.inl hge)
  rw [hw6]
  have k17 : w6.cell? ⟨r, 17, none⟩ = some (.int .i64 id) := hl6.at_.cell (by rw [← HID.out]; rfl)
  have hb7 : Below w6.heap.size w6 (w6.alloc (.cells #[.int .i64 id] 3)) := (Below.refl _ _).alloc (Nat.le_refl _) _
  have h7 := hl6.below hb7
  have k20 := h7.at_.cell (j := 20) rfl
  have k21 := h7.at_.cell (j := 21) rfl
  have k23 := h7.at_.cell (j := 23) rfl
  have kf := h7.at_.frozen
  obtain ⟨gy, hgy⟩ : ∃ gy, w6.heap.size = gy := ⟨_, rfl⟩
  obtain ⟨w8, hw8⟩ : ∃ w8, (((w6.alloc (.cells #[.int .i64 id] 3)).setCell ⟨r, 20, none⟩ (.int .i64 2)).setCell ⟨r, 21, none⟩ (.int .i64 (-1))).setCell ⟨r, 23, none⟩ (.slice (some ⟨gy, 0, none⟩) 1 1) = w8 := ⟨_, rfl⟩
  have hl8 : Lone w8 b0 r { s with term := 1, voted := id, role := 2, leader := -1, yes := .slice (some ⟨gy, 0, none⟩) 1 1 } [] ops := by
    rw [← hw8]
    exact ((h7.set 20 (.int .i64 2) { s with term := 1, voted := id, role := 2 } rfl rfl).set 21 (.int .i64 (-1)) { s with term := 1, voted := id, role := 2, leader := -1 } rfl rfl).set 23 _ { s with term := 1, voted := id, role := 2, leader := -1, yes := .slice (some ⟨gy, 0, none⟩) 1 1 } rfl rfl
  have hne8 : tg ≠ r := by have h9 := timer_far H.out HTM.out; rw [HTG.out] at h9; exact h9
  have hgyr : gy ≠ r := by have := hl6.at_.lt; omega
  have ht8 : TimerAt w8 tg 0 (limitV 6 d) 6 := by
    rw [← hw8]
    exact (Below.heap_setCell _ _ _ _ hne8).trans ((Below.heap_setCell _ _ _ _ hne8).trans ((Below.heap_setCell _ _ _ _ hne8).trans ((hb7.block tg (Array.getElem?_eq_some_iff.1 ht6).1).trans ht6)))
  have hs8 : Sees w8 (some ⟨gy, 0, none⟩) [.int .i64 id] := by
    have h9 : w8.heap[gy]? = some (.cells #[.int .i64 id] 3 (0, 0)) := by
      rw [← hw8]
      refine (Below.heap_setCell _ _ _ _ hgyr).trans ((Below.heap_setCell _ _ _ _ hgyr).trans ((Below.heap_setCell _ _ _ _ hgyr).trans ?_))
      rw [← hgy]
      exact heap_alloc_new w6 _
    intro j v hj
    refine ⟨_, rfl, ?_⟩
    rw [add_base, cell_of_row _ _ j _ _ _ h9]
    simpa using hj
  have ho8 : Outside (fun b => b = r ∨ b = s.tg) w w8 := by
    rw [← hw8]
    exact (((ho6.trans (Outside.of_below (S := fun b => b = r ∨ b = s.tg) hb7) (fun _ _ h => h)).set _ _ (.inr (.inl rfl))).set _ _ (.inr (.inl rfl))).set _ _ (.inr (.inl rfl))
  have HW8 := Lib.hid hw8
  have HGY := Lib.hid hgy
  have HL8 := Lib.hid hl8
  have HT8 := Lib.hid ht8
  have HS8 := Lib.hid hs8
  have HO8 := Lib.hid ho8
  clear hw6 hl6 ht6 ho6 f3 f4 f5 f6 ff k5 k6 k7 hb7 h7 hgy hw8 hl8 hne8 hgyr ht8 hs8 ho8 k22
  go_upto_region 10 with fail
  rw [HGY.out]
  rw [HW8.out]
  have HOA := Lib.hid (others_alone w8 HL8.out HIS.out)
  clear k17 k20 k21 k23 kf
  go_wp2_with (first
    | (go_at_call 63; refine HOA.out.mono ?_; rintro e w9 ⟨A9, c9, rfl, hb9⟩; have HB9 := Lib.hid hb9; clear hb9)
    | fail)
  have ht9 := (HB9.out.block tg (Array.getElem?_eq_some_iff.1 HT8.out).1).trans HT8.out
  have HCT := Lib.hid (HCC.out w9 (some ⟨gy, 0, none⟩) 1 (by have h9 := HL8.out.below HB9.out; rw [← HID.out] at h9; exact h9) (by rw [HID.out]; exact HS8.out.below HB9.out) (Nat.le_refl _) (by rw [HTG.out]; exact ht9) (HO8.out.trans (Outside.of_below HB9.out) (fun _ _ h => h)))
  clear ht9
  go_loopw [75] (fun s75 wr => s75 = .int .i64 0 ∧ w9 = wr) (fun _ _ => 0)
  case atStart => exact ⟨rfl, rfl⟩
  case round =>
    obtain ⟨rfl, rfl⟩ := hrel
    go_wp2_with (first
      | (go_at_call 115; refine HCT.out.mono ?_; rintro e w10 ⟨rfl, hp⟩; have HP := Lib.hid hp; clear hp)
      | fail)
    go_end0
    exact ⟨rfl, HP.out⟩
end
end Go.Proofs.YtoongmoajnedlaaGreat
/-
  A server alone: it tries (written by mkstand.py out of Lone5).
-/
set_option linter.unusedVariables false
set_option linter.unusedSimpArgs false
namespace Go.Proofs.YtoongmoajnedlaaGreat
open Go.RowKit Go.Maps

section
variable {b0 r : Nat} {s : RSt} {ops : List Value}
set_option maxRecDepth 16384 in
set_option maxHeartbeats 4000000 in
theorem stand_one (d cnt lim : Int) (w : World) (h : Lone w b0 r s [] ops) (hn : s.n = 0) (his : s.is = [s.id]) (ht : s.term = 0) (htm : TimerAt w s.tg cnt lim 6) (P : World → Prop)
    (hC : ∀ (w' : World) (Y : Option Addr) (cy : Nat), Lone w' b0 r { s with role := 1, leader := -1, yes := .slice Y 1 cy } [] ops → Sees w' Y [.int .i64 s.id] → 1 ≤ cy → TimerAt w' s.tg cnt lim 6 → Outside (fun b => b = r ∨ b = s.tg) w w' →
      Calls Tryz.prog 115 #[.pointer (some ⟨r, 0, none⟩), .int .i64 d] w' (fun e w'' => e = .returned (.tuple #[]) ∧ P w'')) :
    Calls Tryz.prog 59 #[.pointer (some ⟨r, 0, none⟩), .int .i64 1, .int .i64 d] w (fun e w'' => e = .returned (.tuple #[]) ∧ P w'') := by
  obtain ⟨id, hid⟩ : ∃ id, s.id = id := ⟨_, rfl⟩
  obtain ⟨tg, htg⟩ : ∃ tg, s.tg = tg := ⟨_, rfl⟩
  obtain ⟨w1, hw1⟩ : ∃ w1, w.alloc (.cells #[.int .i64 1, .int .i64 0, .int .i64 0, .int .i64 0, .int .i64 0, .int .i64 0, .int .i64 0, .int .i64 0, .bool false, .slice none 0 0, .slice none 0 0, .slice none 0 0] 34) = w1 := ⟨_, rfl⟩
  obtain ⟨gm, hgm⟩ : ∃ gm, w.heap.size = gm := ⟨_, rfl⟩
  have hb1 : Below w.heap.size w w1 := by rw [← hw1]; exact (Below.refl _ _).alloc (Nat.le_refl _) _
  have h1 := h.below hb1
  have hm1 : w1.heap[gm]? = some (.cells #[.int .i64 1, .int .i64 0, .int .i64 0, .int .i64 0, .int .i64 0, .int .i64 0, .int .i64 0, .int .i64 0, .bool false, .slice none 0 0, .slice none 0 0, .slice none 0 0] 34 (0, 0)) := by rw [← hw1, ← hgm]; exact heap_alloc_new _ _
  have k18 : w1.cell? ⟨r, 18, none⟩ = some (.int .i64 0) := h1.at_.cell (by rw [← ht]; rfl)
  have k17 : w1.cell? ⟨r, 17, none⟩ = some (.int .i64 id) := h1.at_.cell (by rw [← hid]; rfl)
  have k19 : w1.cell? ⟨r, 19, none⟩ = some (.int .i64 s.voted) := h1.at_.cell rfl
  have k22 : w1.cell? ⟨r, 22, none⟩ = some (.pointer (some ⟨tg, 0, none⟩)) := h1.at_.cell (by rw [← htg]; rfl)
  have kf := h1.at_.frozen
  have HW1 := Lib.hid hw1
  have HGM := Lib.hid hgm
  have H := Lib.hid h
  have H1 := Lib.hid h1
  have HB1 := Lib.hid hb1
  have HM1 := Lib.hid hm1
  have HN := Lib.hid hn
  have HIS := Lib.hid his
  have HT := Lib.hid ht
  have HTM := Lib.hid htm
  have HCC := Lib.hid hC
  have HID := Lib.hid hid
  have HTG := Lib.hid htg
  clear hw1 hgm h h1 hb1 hm1 hn his ht htm hC hid htg
  go_enter Tryz.func59, Tryz.ntmps59
  go_upto_region 1 with fail
  rw [HW1.out]
  rw [HGM.out]
  have hgr : gm ≠ r := by have := H.out.at_.lt; have := HGM.out; omega
  have hgt : gm ≠ tg := by
    have := (Array.getElem?_eq_some_iff.1 HTM.out).1
    rw [HTG.out] at this
    have := HGM.out
    omega
  have ht1 : TimerAt w1 tg cnt lim 6 := by
    have h8 := HTM.out
    rw [HTG.out] at h8
    exact (HB1.out.block tg (Array.getElem?_eq_some_iff.1 h8).1).trans h8
  have hm1 : MsgAt w1 gm 0 0 0 0 := HM1.out
  obtain ⟨e3, e4, e5, e6, ef⟩ := msg_cells hm1
  have HGR := Lib.hid hgr
  have HGT := Lib.hid hgt
  have HT1 := Lib.hid ht1
  clear hgr hgt ht1 hm1 e4 e5
  go_upto_region 7 with fail
  obtain ⟨w3, hw3⟩ : ∃ w3, w1.setCell ⟨gm, 6, none⟩ (.int .i64 1) = w3 := ⟨_, rfl⟩
  have hl3 : Lone w3 b0 r s [] ops := by rw [← hw3]; exact H1.out.far ⟨gm, 6, none⟩ _ HM1.out
  have hm3 : MsgAt w3 gm 0 0 0 1 := by
    have h9 := HM1.out
    rw [← hw3]
    unfold MsgAt
    simp [World.setCell, Array.getElem?_modify, h9]
  have ht3 : TimerAt w3 tg cnt lim 6 := by rw [← hw3]; exact (Below.heap_setCell _ _ _ _ (fun e => HGT.out e.symm)).trans HT1.out
  have ho3 : Outside (fun b => b = r ∨ b = s.tg) w w3 := by
    rw [← hw3]
    exact (Outside.of_below HB1.out).set _ _ (.inl (by show w.heap.size ≤ gm; rw [HGM.out]; exact Nat.le_refl _))
  have c18 : w3.cell? ⟨r, 18, none⟩ = some (.int .i64 0) := hl3.at_.cell (by rw [← HT.out]; rfl)
  rw [hw3]
  clear e3 e6 ef k18 k17 k19 kf hw3
  obtain ⟨e3, e4, e5, e6, ef⟩ := msg_cells hm3
  have HL3 := Lib.hid hl3
  have HM3 := Lib.hid hm3
  have HT3 := Lib.hid ht3
  have HO3 := Lib.hid ho3
  clear hl3 hm3 ht3 ho3 e4 e5
  go_region
  obtain ⟨w4, hw4⟩ : ∃ w4, (w3.setCell ⟨gm, 3, none⟩ (.int .i64 1)).drew = w4 := ⟨_, rfl⟩
  have hl4 : Lone w4 b0 r s [] ops := by rw [← hw4]; exact (HL3.out.far ⟨gm, 3, none⟩ _ HM3.out).drew
  have hm4 : MsgAt w4 gm 1 0 0 1 := by rw [← hw4]; exact HM3.out.set3 1
  have ht4 : TimerAt w4 tg cnt lim 6 := by rw [← hw4]; exact (Below.heap_setCell _ _ _ _ (fun e => HGT.out e.symm)).trans HT3.out
  have ho4 : Outside (fun b => b = r ∨ b = s.tg) w w4 := by
    rw [← hw4]
    refine (HO3.out.set _ _ (.inl ?_)).drew
    show w.heap.size ≤ gm
    rw [HGM.out]
    exact Nat.le_refl _
  rw [hw4]
  have k5 : w4.cell? ⟨r, 5, none⟩ = some (.int .i64 0) := hl4.at_.cell (j := 5) rfl
  have k6 : w4.cell? ⟨r, 6, none⟩ = some (.int .i64 0) := hl4.at_.cell (j := 6) rfl
  have k7 : w4.cell? ⟨r, 7, none⟩ = some (.slice s.A 0 s.c) := hl4.at_.cell (by rw [← HN.out]; rfl)
  have HL4 := Lib.hid hl4
  have HM4 := Lib.hid hm4
  have HT4 := Lib.hid ht4
  have HO4 := Lib.hid ho4
  clear hw4 hl4 hm4 ht4 ho4 c18 e3 e6 ef
  go_upto_region 9 with (first
    | (go_at_call 110; refine (last_none s.A s.c w4).mono ?_; rintro e w5 ⟨x, y, rfl, hb5⟩; have hm5 : MsgAt w5 gm 1 0 0 1 := (hb5.block gm (Array.getElem?_eq_some_iff.1 HM4.out).1).trans HM4.out; obtain ⟨f3, f4, f5, f6, ff⟩ := msg_cells hm5; have HB5 := Lib.hid hb5; have HM5 := Lib.hid hm5; clear hb5 hm5)
    | fail)
  obtain ⟨w6, hw6⟩ : ∃ w6, (w5.setCell ⟨gm, 4, none⟩ (.int .i64 x)).setCell ⟨gm, 5, none⟩ (.int .i64 y) = w6 := ⟨_, rfl⟩
  have hl6 : Lone w6 b0 r s [] ops := by
    rw [← hw6]
    have h9 := HL4.out.below HB5.out
    have h8 : ∃ cs, (w5.setCell ⟨gm, 4, none⟩ (.int .i64 x)).heap[gm]? = some (.cells cs 34 (0, 0)) := ⟨_, by simp [World.setCell, Array.getElem?_modify, show w5.heap[gm]? = _ from HM5.out]; rfl⟩
    obtain ⟨cs, h8⟩ := h8
    exact (h9.far ⟨gm, 4, none⟩ _ HM5.out).far ⟨gm, 5, none⟩ _ h8
  have ht6 : TimerAt w6 tg cnt lim 6 := by
    rw [← hw6]
    exact (Below.heap_setCell _ _ _ _ (fun e => HGT.out e.symm)).trans ((Below.heap_setCell _ _ _ _ (fun e => HGT.out e.symm)).trans ((HB5.out.block tg (Array.getElem?_eq_some_iff.1 HT4.out).1).trans HT4.out))
  have ho6 : Outside (fun b => b = r ∨ b = s.tg) w w6 := by
    rw [← hw6]
    have hge : w.heap.size ≤ gm := by rw [HGM.out]; exact Nat.le_refl _
    exact ((HO4.out.trans (Outside.of_below (S := fun b => b = r ∨ b = s.tg) HB5.out) (fun _ _ h => h)).set _ _ (.inl hge)).set _ _ (.inl hge)
  rw [hw6]
  have k17 : w6.cell? ⟨r, 17, none⟩ = some (.int .i64 id) := hl6.at_.cell (by rw [← HID.out]; rfl)
  have hb7 : Below w6.heap.size w6 (w6.alloc (.cells #[.int .i64 id] 3)) := (Below.refl _ _).alloc (Nat.le_refl _) _
  have h7 := hl6.below hb7
  have k20 := h7.at_.cell (j := 20) rfl
  have k21 := h7.at_.cell (j := 21) rfl
  have k23 := h7.at_.cell (j := 23) rfl
  have kf := h7.at_.frozen
  obtain ⟨gy, hgy⟩ : ∃ gy, w6.heap.size = gy := ⟨_, rfl⟩
  obtain ⟨w8, hw8⟩ : ∃ w8, (((w6.alloc (.cells #[.int .i64 id] 3)).setCell ⟨r, 20, none⟩ (.int .i64 1)).setCell ⟨r, 21, none⟩ (.int .i64 (-1))).setCell ⟨r, 23, none⟩ (.slice (some ⟨gy, 0, none⟩) 1 1) = w8 := ⟨_, rfl⟩
  have hl8 : Lone w8 b0 r { s with role := 1, leader := -1, yes := .slice (some ⟨gy, 0, none⟩) 1 1 } [] ops := by
    rw [← hw8]
    exact ((h7.set 20 (.int .i64 1) { s with role := 1 } rfl rfl).set 21 (.int .i64 (-1)) { s with role := 1, leader := -1 } rfl rfl).set 23 _ { s with role := 1, leader := -1, yes := .slice (some ⟨gy, 0, none⟩) 1 1 } rfl rfl
  have hne8 : tg ≠ r := by have h9 := timer_far H.out HTM.out; rw [HTG.out] at h9; exact h9
  have hgyr : gy ≠ r := by have := hl6.at_.lt; omega
  have ht8 : TimerAt w8 tg cnt lim 6 := by
    rw [← hw8]
    exact (Below.heap_setCell _ _ _ _ hne8).trans ((Below.heap_setCell _ _ _ _ hne8).trans ((Below.heap_setCell _ _ _ _ hne8).trans ((hb7.block tg (Array.getElem?_eq_some_iff.1 ht6).1).trans ht6)))
  have hs8 : Sees w8 (some ⟨gy, 0, none⟩) [.int .i64 id] := by
    have h9 : w8.heap[gy]? = some (.cells #[.int .i64 id] 3 (0, 0)) := by
      rw [← hw8]
      refine (Below.heap_setCell _ _ _ _ hgyr).trans ((Below.heap_setCell _ _ _ _ hgyr).trans ((Below.heap_setCell _ _ _ _ hgyr).trans ?_))
      rw [← hgy]
      exact heap_alloc_new w6 _
    intro j v hj
    refine ⟨_, rfl, ?_⟩
    rw [add_base, cell_of_row _ _ j _ _ _ h9]
    simpa using hj
  have ho8 : Outside (fun b => b = r ∨ b = s.tg) w w8 := by
    rw [← hw8]
    exact (((ho6.trans (Outside.of_below (S := fun b => b = r ∨ b = s.tg) hb7) (fun _ _ h => h)).set _ _ (.inr (.inl rfl))).set _ _ (.inr (.inl rfl))).set _ _ (.inr (.inl rfl))
  have HW8 := Lib.hid hw8
  have HGY := Lib.hid hgy
  have HL8 := Lib.hid hl8
  have HT8 := Lib.hid ht8
  have HS8 := Lib.hid hs8
  have HO8 := Lib.hid ho8
  clear hw6 hl6 ht6 ho6 f3 f4 f5 f6 ff k5 k6 k7 hb7 h7 hgy hw8 hl8 hne8 hgyr ht8 hs8 ho8 k22
  go_upto_region 10 with fail
  rw [HGY.out]
  rw [HW8.out]
  have HOA := Lib.hid (others_alone w8 HL8.out HIS.out)
  clear k17 k20 k21 k23 kf
  go_wp2_with (first
    | (go_at_call 63; refine HOA.out.mono ?_; rintro e w9 ⟨A9, c9, rfl, hb9⟩; have HB9 := Lib.hid hb9; clear hb9)
    | fail)
  have ht9 := (HB9.out.block tg (Array.getElem?_eq_some_iff.1 HT8.out).1).trans HT8.out
  have HCT := Lib.hid (HCC.out w9 (some ⟨gy, 0, none⟩) 1 (by have h9 := HL8.out.below HB9.out; exact h9) (by rw [HID.out]; exact HS8.out.below HB9.out) (Nat.le_refl _) (by rw [HTG.out]; exact ht9) (HO8.out.trans (Outside.of_below HB9.out) (fun _ _ h => h)))
  clear ht9
  go_loopw [75] (fun s75 wr => s75 = .int .i64 0 ∧ w9 = wr) (fun _ _ => 0)
  case atStart => exact ⟨rfl, rfl⟩
  case round =>
    obtain ⟨rfl, rfl⟩ := hrel
    go_wp2_with (first
      | (go_at_call 115; refine HCT.out.mono ?_; rintro e w10 ⟨rfl, hp⟩; have HP := Lib.hid hp; clear hp)
      | fail)
    go_end0
    exact ⟨rfl, HP.out⟩
end
end Go.Proofs.YtoongmoajnedlaaGreat
/-
  A server alone: Tick.
-/
set_option linter.unusedVariables false
set_option linter.unusedSimpArgs false
namespace Go.Proofs.YtoongmoajnedlaaGreat
open Go.RowKit Go.Maps

section
variable {b0 r : Nat} {s : RSt} {ops : List Value}
/-- It leads, in term 1, and has committed 1. -/
def Leads (b0 r : Nat) (id : Int) (w' : World) : Prop := ∃ (s' : RSt) (cells' ops' : List Value), Lone w' b0 r s' cells' ops' ∧ s'.role = 3 ∧ s'.leader = id ∧ s'.commit = 1 ∧ s'.term = 1
/-- Behind a call all below b0 lies as it lay. -/
def LeadsB (b0 r : Nat) (id : Int) (w w' : World) : Prop := Leads b0 r id w' ∧ Below b0 w w'
theorem own_ge {b0 r b : Nat} {s : RSt} {w : World} {cells ops : List Value} (h : Lone w b0 r s cells ops) (hr : b0 ≤ r) (hb : Lone.Own s r b) : b0 ≤ b := by
  rcases hb with rfl | hb | hb
  · exact hr
  · exact (own_block_ge h.log b hb).1
  · exact (own_block_ge h.ops b hb).1
theorem stands (d cnt lim : Int) (w : World) (h : Lone w b0 r s [] ops) (hn : s.n = 0) (his : s.is = [s.id]) (ht : s.term = 0) (hc : s.commit = 0) (hwf : (Lit.int .i64 s.id).wf = true) (hrd : s.round = 0) (hm : s.m < 1000) (htm : TimerAt w s.tg cnt lim 6) (hr0 : b0 ≤ r) (ht0 : b0 ≤ s.tg) :
    Calls Tryz.prog 59 #[.pointer (some ⟨r, 0, none⟩), .int .i64 1, .int .i64 d] w (fun e w'' => e = .returned (.tuple #[]) ∧ LeadsB b0 r s.id w w'') := by
  have two : ∀ b, (b = r ∨ b = s.tg) → b0 ≤ b := by
    rintro b (rfl | rfl)
    · exact hr0
    · exact ht0
  refine stand_one d cnt lim w h hn his ht htm _ ?_
  intro w1 Y cy h1 hs1 hcy1 ht1 ho1
  have q1 : Below b0 w w1 := ho1.below two h.bz
  refine counted_one (s := { s with role := 1, leader := -1, yes := .slice Y 1 cy }) d Y cy _ w1 h1 his rfl rfl hcy1 hs1 hwf ?_
  intro w2 hb2
  have q2 : Below b0 w w2 := below_step q1 h1.bz hb2
  have ht2 : TimerAt w2 s.tg cnt lim 6 := (hb2.block s.tg (Array.getElem?_eq_some_iff.1 ht1).1).trans ht1
  refine stand_two (s := { s with role := 1, leader := -1, yes := .slice Y 1 cy }) d cnt lim w2 (h1.below hb2) hn his ht ht2 _ ?_
  intro w3 Y3 cy3 h3 hs3 hcy3 ht3 ho3
  have q3 : Below b0 w w3 := q2.trans (ho3.below two (h1.below hb2).bz)
  refine counted_two (s := { s with term := 1, voted := s.id, role := 2, leader := -1, yes := .slice Y3 1 cy3 }) d Y3 cy3 _ w3 h3 his rfl rfl hcy3 hs3 hwf ?_
  intro w4 hb4
  have q4 : Below b0 w w4 := below_step q3 h3.bz hb4
  refine (begin_one (s := { s with term := 1, voted := s.id, role := 2, leader := -1, yes := .slice Y3 1 cy3 }) w4 (h3.below hb4) hn his rfl hc hwf hrd hm).mono ?_
  rintro e w5 ⟨rfl, s', cells', ops', h5, e1, e2, e3, e4, _, _, _, ho5⟩
  exact ⟨rfl, ⟨s', cells', ops', h5, e1, e2, e3, e4⟩, q4.trans (ho5.below (fun b hb => own_ge (h3.below hb4) hr0 hb) (h3.below hb4).bz)⟩
theorem none_made {cells : List Value} (w : World) (h : Lone w b0 r s cells ops) : Calls Tryz.prog 45 #[.pointer (some ⟨r, 0, none⟩)] w (fun e w' => e = .returned (.bool false) ∧ w = w') := by
  have c22 := h.at_.cell (j := 22) rfl
  clear h
  go_enter Tryz.func45, Tryz.ntmps45
  go_wp2_with fail
  go_ret
  exact ⟨rfl, rfl⟩
theorem has_self (A : Option Addr) (c : Nat) (x : Int) (w : World) (hc : 1 ≤ c) (h : Sees w A [.int .i64 x]) : Calls Tryz.prog 56 #[.slice A 1 c, .int .i64 x] w (fun e w' => e = .returned (.bool true) ∧ w = w') := by
  have h9 := C.has_any A [x] c x w hc (by simp) h
  rw [show C.hasB [x] x = true by simp [C.hasB]] at h9
  exact h9
theorem tick_wait {cells : List Value} (d cnt lim : Int) (w : World) (h : Lone w b0 r s cells ops) (hr : s.role = 0) (htm : TimerAt w s.tg cnt lim 6) (h0 : 0 ≤ cnt) (h1 : cnt + 1 < lim) (h2 : lim ≤ 1000) :
    Calls Tryz.prog 13 #[.pointer (some ⟨r, 0, none⟩), .int .i64 d] w (fun e w' => e = .returned (.int .i64 0) ∧ Lone w' b0 r s cells ops ∧ TimerAt w' s.tg (cnt + 1) lim 6 ∧ Outside (· = s.tg) w w') := by
  have HNM := Lib.hid (none_made w h)
  have HTK := Lib.hid (ttick_any s.tg cnt lim 6 w htm (by decide) h0 (by omega))
  unfold RetTick at HTK
  rw [show min (cnt + 1) lim = cnt + 1 by omega, show (cnt + 1 == lim) = false by simp; omega] at HTK
  have c20 : w.cell? ⟨r, 20, none⟩ = some (.int .i64 0) := h.at_.cell (by rw [← hr]; rfl)
  have c22 := h.at_.cell (j := 22) rfl
  have H := Lib.hid h
  have HT := Lib.hid htm
  clear h hr htm h0 h1 h2
  go_enter Tryz.func13, Tryz.ntmps13
  go_wp2_with (first
    | (go_at_call 45; refine HNM.out.mono ?_; rintro e w1 ⟨rfl, rfl⟩)
    | (go_at_call 54; refine HTK.out.mono ?_; rintro e w2 ⟨rfl, ht2, ho2⟩; have HT2 := Lib.hid ht2; have HO2 := Lib.hid ho2; clear ht2 ho2)
    | fail)
  go_ret
  exact ⟨rfl, H.out.out HT.out HO2.out, HT2.out, HO2.out⟩
set_option maxHeartbeats 4000000 in
theorem tick_goes (d cnt lim : Int) (w : World) (h : Lone w b0 r s [] ops) (hn : s.n = 0) (his : s.is = [s.id]) (ht : s.term = 0) (hc : s.commit = 0) (hwf : (Lit.int .i64 s.id).wf = true) (hrd : s.round = 0) (hm : s.m < 1000) (hr : s.role = 0) (htm : TimerAt w s.tg cnt lim 6) (h0 : 0 ≤ cnt) (h1 : cnt + 1 = lim) (h2 : lim ≤ 1000) (hr0 : b0 ≤ r) (ht0 : b0 ≤ s.tg) :
    Calls Tryz.prog 13 #[.pointer (some ⟨r, 0, none⟩), .int .i64 d] w (fun e w' => e = .returned (.int .i64 0) ∧ LeadsB b0 r s.id w w') := by
  have HNM := Lib.hid (none_made w h)
  have HTK := Lib.hid (ttick_any s.tg cnt lim 6 w htm (by decide) h0 (by omega))
  unfold RetTick at HTK
  rw [show min (cnt + 1) lim = lim by omega, show (lim == lim) = true by simp] at HTK
  have c20 : w.cell? ⟨r, 20, none⟩ = some (.int .i64 0) := h.at_.cell (by rw [← hr]; rfl)
  have c22 := h.at_.cell (j := 22) rfl
  have H := Lib.hid h
  have HT := Lib.hid htm
  have HST := Lib.hid (fun (w' : World) (h' : Lone w' b0 r s [] ops) (t' : TimerAt w' s.tg 0 (limitV 6 d) 6) => stands d 0 (limitV 6 d) w' h' hn his ht hc hwf hrd hm t' hr0 ht0)
  have HIS := Lib.hid his
  have HTG : Hid (∀ b, b = s.tg → b0 ≤ b) := Lib.hid (fun b hb => hb ▸ ht0)
  clear h hr htm h0 h1 h2 hn his ht hc hwf hrd hm hr0 ht0
  go_enter Tryz.func13, Tryz.ntmps13
  go_upto_region 11 with (first
    | (go_at_call 45; refine HNM.out.mono ?_; rintro e w1 ⟨rfl, rfl⟩)
    | (go_at_call 54; refine HTK.out.mono ?_; rintro e w2 ⟨rfl, ht2, ho2⟩; have hl2 := H.out.out HT.out ho2; have k22 := hl2.at_.cell (j := 22) rfl; have HT2 := Lib.hid ht2; have HL2 := Lib.hid hl2; have HQ2 := Lib.hid (ho2.below HTG.out H.out.bz); clear ht2 ho2 hl2)
    | (go_at_call 55; refine (reset_any s.tg lim lim 6 d w2 HT2.out (by decide) (by decide)).mono ?_; rintro e w3 ⟨rfl, ht3, ho3⟩; have hl3 := HL2.out.out HT2.out ho3; have HT3 := Lib.hid ht3; have HL3 := Lib.hid hl3; have HQ3 := Lib.hid (HQ2.out.trans (ho3.below HTG.out HL2.out.bz)); clear ht3 ho3 hl3)
    | fail)
  obtain ⟨id, hid⟩ : ∃ id, s.id = id := ⟨_, rfl⟩
  have hrl := HL3.out.at_.lt
  have c17 : w3.cell? ⟨r, 17, none⟩ = some (.int .i64 id) := HL3.out.at_.cell (by rw [← hid]; rfl)
  have HK : Hid (∀ W', Below w3.heap.size w3 W' → W'.cell? ⟨r, 17, none⟩ = some (.int .i64 id)) := Lib.hid (fun W' hb => (hb.cell hrl).trans c17)
  have HS : Hid (∀ W', Below w3.heap.size w3 W' → Calls Tryz.prog 57 #[.pointer (some ⟨r, 5, none⟩)] W' (C.RetInts W' 1 [id])) := Lib.hid (fun W' hb => by
    have h9 := servers_any W' (HL3.out.below hb).logAt
    rw [HIS.out, hid] at h9
    exact h9)
  have bd : Below w3.heap.size w3 w3.drew := (Below.refl _ _).drew
  clear c20 c22 k22 hrl hid
  have hS0 : w3.drew.cell? ⟨r, 17, none⟩ = some (.int .i64 id) := HK.out _ bd
  refine wp_region_held_drew (S := (fun W' => W'.cell? ⟨r, 17, none⟩ = some (.int .i64 id))) (by kernel_rfl) hS0 (fun _ => ?_)
  refine wpAnyH_take (i := 0) (v := ?v0) rfl (by kernel_rfl) (by kernel_rfl) (by kernel_rfl) (fun _ _ _ h => h) (Or.inl ⟨rfl, fun w' hS => ?y0⟩) hS0 ?z0
  case y0 => (have s0 : w'.cell? ⟨r, 17, none⟩ = some (.int .i64 id) := hS; go_simp; with_reducible rfl)
  try simp only [Act.put, List.getElem_toArray, List.getElem_cons_zero, List.getElem_cons_succ, List.setIfInBounds_toArray, List.set_cons_zero, List.set_cons_succ]
  refine wpAnyH_take (i := 1) (v := ?v1) rfl (by kernel_rfl) (by kernel_rfl) (by kernel_rfl) (fun _ _ _ h => h) (Or.inl ⟨rfl, fun w' hS => ?y1⟩) hS0 ?z1
  case y1 => (have s0 : w'.cell? ⟨r, 17, none⟩ = some (.int .i64 id) := hS; go_simp; with_reducible rfl)
  try simp only [Act.put, List.getElem_toArray, List.getElem_cons_zero, List.getElem_cons_succ, List.setIfInBounds_toArray, List.set_cons_zero, List.set_cons_succ]
  refine wpAnyH_take (i := 2) (v := ?v2) rfl (by kernel_rfl) (by kernel_rfl) (by kernel_rfl) (fun _ _ _ h => h) (Or.inl ⟨rfl, fun w' hS => ?y2⟩) hS0 ?z2
  case y2 => (have s0 : w'.cell? ⟨r, 17, none⟩ = some (.int .i64 id) := hS; go_simp; with_reducible rfl)
  try simp only [Act.put, List.getElem_toArray, List.getElem_cons_zero, List.getElem_cons_succ, List.setIfInBounds_toArray, List.set_cons_zero, List.set_cons_succ]
  refine wpAnyH_take (i := 4) (v := ?v4) rfl (by kernel_rfl) (by kernel_rfl) (by kernel_rfl) (fun _ _ _ h => h) (Or.inl ⟨rfl, fun w' hS => ?y4⟩) hS0 ?z4
  case y4 => (have s0 : w'.cell? ⟨r, 17, none⟩ = some (.int .i64 id) := hS; go_simp; with_reducible rfl)
  try simp only [Act.put, List.getElem_toArray, List.getElem_cons_zero, List.getElem_cons_succ, List.setIfInBounds_toArray, List.set_cons_zero, List.set_cons_succ]
  refine wpAnyH_take (i := 5) (v := ?v5) rfl (by kernel_rfl) (by kernel_rfl) (by kernel_rfl) (fun _ _ _ h => h) (Or.inl ⟨rfl, fun w' hS => ?y5⟩) hS0 ?z5
  case y5 => (have s0 : w'.cell? ⟨r, 17, none⟩ = some (.int .i64 id) := hS; go_simp; with_reducible rfl)
  try simp only [Act.put, List.getElem_toArray, List.getElem_cons_zero, List.getElem_cons_succ, List.setIfInBounds_toArray, List.set_cons_zero, List.set_cons_succ]
  refine wpAnyH_take (i := 6) (v := ?v6) rfl (by kernel_rfl) (by kernel_rfl) (by kernel_rfl) (fun _ _ _ h => h) (Or.inl ⟨rfl, fun w' hS => ?y6⟩) hS0 ?z6
  case y6 => (have s0 : w'.cell? ⟨r, 17, none⟩ = some (.int .i64 id) := hS; go_simp; with_reducible rfl)
  try simp only [Act.put, List.getElem_toArray, List.getElem_cons_zero, List.getElem_cons_succ, List.setIfInBounds_toArray, List.set_cons_zero, List.set_cons_succ]
  refine wpAnyH_take (i := 7) (v := ?v7) rfl (by kernel_rfl) (by kernel_rfl) (by kernel_rfl) (fun _ _ _ h => h) (Or.inl ⟨rfl, fun w' hS => ?y7⟩) hS0 ?z7
  case y7 => (have s0 : w'.cell? ⟨r, 17, none⟩ = some (.int .i64 id) := hS; go_simp; with_reducible rfl)
  try simp only [Act.put, List.getElem_toArray, List.getElem_cons_zero, List.getElem_cons_succ, List.setIfInBounds_toArray, List.set_cons_zero, List.set_cons_succ]
  refine wpAnyH_ready (rs := [3]) (by kernel_rfl) (by simp) ?_
  refine AllReadyH.cons rfl (fun K' hK => ?_) AllReadyH.nil
  have HK9 := Lib.hid hK
  clear hK
  go_simp
  go_at_call 57
  refine (HS.out _ bd).mono ?_
  rintro e w4 ⟨A4, c4, rfl, hown4, hb4⟩
  have hb4' := below_step bd bd.size hb4
  have hS4 := HK.out _ hb4'
  have HS4 := Lib.hid (sees_own' hown4).2.2.2
  have HC4 := Lib.hid (sees_own' hown4).2.1
  clear hown4 hb4
  refine HK9.out.out _ _ hS4 (fun _ => ?_)
  clear HK9
  try simp only [Act.put, List.getElem_toArray, List.getElem_cons_zero, List.getElem_cons_succ, List.setIfInBounds_toArray, List.set_cons_zero, List.set_cons_succ]
  refine wpAnyH_ready (rs := [8]) (by kernel_rfl) (by simp) ?_
  refine AllReadyH.cons rfl (fun K' hK => ?_) AllReadyH.nil
  have HK9 := Lib.hid hK
  clear hK
  go_simp
  go_at_call 56
  refine (has_self A4 c4 id w4 HC4.out HS4.out).mono ?_
  rintro e w5 ⟨rfl, rfl⟩
  refine HK9.out.out _ _ hS4 (fun _ => ?_)
  clear HK9
  try simp only [Act.put, List.getElem_toArray, List.getElem_cons_zero, List.getElem_cons_succ, List.setIfInBounds_toArray, List.set_cons_zero, List.set_cons_succ]
  refine wpAnyH_take (i := 9) (v := ?v9) rfl (by kernel_rfl) (by kernel_rfl) (by kernel_rfl) (fun _ _ _ h => h) (Or.inl ⟨rfl, fun w' hS => ?y9⟩) hS4 ?z9
  case y9 => (have s0 : w'.cell? ⟨r, 17, none⟩ = some (.int .i64 id) := hS; go_simp; with_reducible rfl)
  try simp only [Act.put, List.getElem_toArray, List.getElem_cons_zero, List.getElem_cons_succ, List.setIfInBounds_toArray, List.set_cons_zero, List.set_cons_succ]
  refine wpAnyH_take (i := 10) (v := undef) rfl (by kernel_rfl) (by kernel_rfl) (by kernel_rfl) (fun _ _ _ h => h) (Or.inr ⟨rfl, rfl⟩) hS4 ?_
  try simp only [Act.put, List.getElem_toArray, List.getElem_cons_zero, List.getElem_cons_succ, List.setIfInBounds_toArray, List.set_cons_zero, List.set_cons_succ]
  refine wpAnyH_take (i := 11) (v := undef) rfl (by kernel_rfl) (by kernel_rfl) (by kernel_rfl) (fun _ _ _ h => h) (Or.inr ⟨rfl, rfl⟩) hS4 ?_
  try simp only [Act.put, List.getElem_toArray, List.getElem_cons_zero, List.getElem_cons_succ, List.setIfInBounds_toArray, List.set_cons_zero, List.set_cons_succ]
  refine wpAnyH_take (i := 12) (v := undef) rfl (by kernel_rfl) (by kernel_rfl) (by kernel_rfl) (fun _ _ _ h => h) (Or.inr ⟨rfl, rfl⟩) hS4 ?_
  try simp only [Act.put, List.getElem_toArray, List.getElem_cons_zero, List.getElem_cons_succ, List.setIfInBounds_toArray, List.set_cons_zero, List.set_cons_succ]
  refine wpAnyH_take (i := 13) (v := undef) rfl (by kernel_rfl) (by kernel_rfl) (by kernel_rfl) (fun _ _ _ h => h) (Or.inr ⟨rfl, rfl⟩) hS4 ?_
  try simp only [Act.put, List.getElem_toArray, List.getElem_cons_zero, List.getElem_cons_succ, List.setIfInBounds_toArray, List.set_cons_zero, List.set_cons_succ]
  refine wpAnyH_take (i := 14) (v := undef) rfl (by kernel_rfl) (by kernel_rfl) (by kernel_rfl) (fun _ _ _ h => h) (Or.inr ⟨rfl, rfl⟩) hS4 ?_
  try simp only [Act.put, List.getElem_toArray, List.getElem_cons_zero, List.getElem_cons_succ, List.setIfInBounds_toArray, List.set_cons_zero, List.set_cons_succ]
  refine wpAnyH_take (i := 15) (v := undef) rfl (by kernel_rfl) (by kernel_rfl) (by kernel_rfl) (fun _ _ _ h => h) (Or.inr ⟨rfl, rfl⟩) hS4 ?_
  try simp only [Act.put, List.getElem_toArray, List.getElem_cons_zero, List.getElem_cons_succ, List.setIfInBounds_toArray, List.set_cons_zero, List.set_cons_succ]
  refine wpAnyH_take (i := 16) (v := undef) rfl (by kernel_rfl) (by kernel_rfl) (by kernel_rfl) (fun _ _ _ h => h) (Or.inr ⟨rfl, rfl⟩) hS4 ?_
  try simp only [Act.put, List.getElem_toArray, List.getElem_cons_zero, List.getElem_cons_succ, List.setIfInBounds_toArray, List.set_cons_zero, List.set_cons_succ]
  refine wpAnyH_take (i := 17) (v := undef) rfl (by kernel_rfl) (by kernel_rfl) (by kernel_rfl) (fun _ _ _ h => h) (Or.inr ⟨rfl, rfl⟩) hS4 ?_
  try simp only [Act.put, List.getElem_toArray, List.getElem_cons_zero, List.getElem_cons_succ, List.setIfInBounds_toArray, List.set_cons_zero, List.set_cons_succ]
  refine wpAnyH_take (i := 18) (v := undef) rfl (by kernel_rfl) (by kernel_rfl) (by kernel_rfl) (fun _ _ _ h => h) (Or.inr ⟨rfl, rfl⟩) hS4 ?_
  try simp only [Act.put, List.getElem_toArray, List.getElem_cons_zero, List.getElem_cons_succ, List.setIfInBounds_toArray, List.set_cons_zero, List.set_cons_succ]
  refine wpAnyH_take (i := 19) (v := undef) rfl (by kernel_rfl) (by kernel_rfl) (by kernel_rfl) (fun _ _ _ h => h) (Or.inr ⟨rfl, rfl⟩) hS4 ?_
  try simp only [Act.put, List.getElem_toArray, List.getElem_cons_zero, List.getElem_cons_succ, List.setIfInBounds_toArray, List.set_cons_zero, List.set_cons_succ]
  refine wpAnyH_take (i := 20) (v := undef) rfl (by kernel_rfl) (by kernel_rfl) (by kernel_rfl) (fun _ _ _ h => h) (Or.inr ⟨rfl, rfl⟩) hS4 ?_
  try simp only [Act.put, List.getElem_toArray, List.getElem_cons_zero, List.getElem_cons_succ, List.setIfInBounds_toArray, List.set_cons_zero, List.set_cons_succ]
  refine wpAnyH_take (i := 21) (v := undef) rfl (by kernel_rfl) (by kernel_rfl) (by kernel_rfl) (fun _ _ _ h => h) (Or.inr ⟨rfl, rfl⟩) hS4 ?_
  try simp only [Act.put, List.getElem_toArray, List.getElem_cons_zero, List.getElem_cons_succ, List.setIfInBounds_toArray, List.set_cons_zero, List.set_cons_succ]
  refine wpAnyH_take (i := 22) (v := undef) rfl (by kernel_rfl) (by kernel_rfl) (by kernel_rfl) (fun _ _ _ h => h) (Or.inr ⟨rfl, rfl⟩) hS4 ?_
  try simp only [Act.put, List.getElem_toArray, List.getElem_cons_zero, List.getElem_cons_succ, List.setIfInBounds_toArray, List.set_cons_zero, List.set_cons_succ]
  refine wpAnyH_take (i := 23) (v := undef) rfl (by kernel_rfl) (by kernel_rfl) (by kernel_rfl) (fun _ _ _ h => h) (Or.inr ⟨rfl, rfl⟩) hS4 ?_
  try simp only [Act.put, List.getElem_toArray, List.getElem_cons_zero, List.getElem_cons_succ, List.setIfInBounds_toArray, List.set_cons_zero, List.set_cons_succ]
  refine wpAnyH_take (i := 24) (v := ?v24) rfl (by kernel_rfl) (by kernel_rfl) (by kernel_rfl) (fun _ _ _ h => h) (Or.inl ⟨rfl, fun w' hS => ?y24⟩) hS4 ?z24
  case y24 => (have s0 : w'.cell? ⟨r, 17, none⟩ = some (.int .i64 id) := hS; go_simp; with_reducible rfl)
  try simp only [Act.put, List.getElem_toArray, List.getElem_cons_zero, List.getElem_cons_succ, List.setIfInBounds_toArray, List.set_cons_zero, List.set_cons_succ]
  refine wpAnyH_done (by kernel_rfl) ?_ _
  clear hS0 hS4 bd
  have HB4 := Lib.hid hb4'
  clear hb4' c17
  go_wp2_with (first
    | (go_at_call 59; refine (HST.out _ (HL3.out.below HB4.out) ((HB4.out.block _ (Array.getElem?_eq_some_iff.1 HT3.out).1).trans HT3.out)).mono ?_; rintro e w6 ⟨rfl, hp⟩; have HP := Lib.hid hp; clear hp)
    | fail)
  go_ret
  exact ⟨rfl, HP.out.1, (below_step HQ3.out HL3.out.bz HB4.out).trans HP.out.2⟩
end
end Go.Proofs.YtoongmoajnedlaaGreat
/-
  Looks of a server that was made.
-/
set_option linter.unusedVariables false
set_option linter.unusedSimpArgs false
namespace Go.Proofs.YtoongmoajnedlaaGreat
open Go.RowKit Go.Maps

section
variable {b0 r : Nat} {s : RSt} {cells ops : List Value}
theorem role_made (w : World) (h : Lone w b0 r s cells ops) : Calls Tryz.prog 27 #[.pointer (some ⟨r, 0, none⟩)] w (fun e w' => e = .returned (.int .i64 s.role) ∧ w = w') := by
  have HNM := Lib.hid (none_made w h)
  have c20 := h.at_.cell (j := 20) rfl
  clear h
  go_enter Tryz.func27, Tryz.ntmps27
  go_wp2_with (first
    | (go_at_call 45; refine HNM.out.mono ?_; rintro e w1 ⟨rfl, rfl⟩)
    | fail)
  go_ret
  exact ⟨rfl, rfl⟩
theorem term_made (w : World) (h : Lone w b0 r s cells ops) : Calls Tryz.prog 23 #[.pointer (some ⟨r, 0, none⟩)] w (fun e w' => e = .returned (.int .i64 s.term) ∧ w = w') := by
  have HNM := Lib.hid (none_made w h)
  have c18 := h.at_.cell (j := 18) rfl
  clear h
  go_enter Tryz.func23, Tryz.ntmps23
  go_wp2_with (first
    | (go_at_call 45; refine HNM.out.mono ?_; rintro e w1 ⟨rfl, rfl⟩)
    | fail)
  go_ret
  exact ⟨rfl, rfl⟩
theorem leader_made (w : World) (h : Lone w b0 r s cells ops) : Calls Tryz.prog 30 #[.pointer (some ⟨r, 0, none⟩)] w (fun e w' => e = .returned (.int .i64 s.leader) ∧ w = w') := by
  have HNM := Lib.hid (none_made w h)
  have c21 := h.at_.cell (j := 21) rfl
  clear h
  go_enter Tryz.func30, Tryz.ntmps30
  go_wp2_with (first
    | (go_at_call 45; refine HNM.out.mono ?_; rintro e w1 ⟨rfl, rfl⟩)
    | fail)
  go_ret
  exact ⟨rfl, rfl⟩
theorem commit_made (w : World) (h : Lone w b0 r s cells ops) : Calls Tryz.prog 31 #[.pointer (some ⟨r, 0, none⟩)] w (fun e w' => e = .returned (.int .i64 s.commit) ∧ w = w') := by
  have HNM := Lib.hid (none_made w h)
  have c8 := h.at_.cell (j := 8) rfl
  clear h
  go_enter Tryz.func31, Tryz.ntmps31
  go_wp2_with (first
    | (go_at_call 45; refine HNM.out.mono ?_; rintro e w1 ⟨rfl, rfl⟩)
    | fail)
  go_ret
  exact ⟨rfl, rfl⟩
end
end Go.Proofs.YtoongmoajnedlaaGreat
