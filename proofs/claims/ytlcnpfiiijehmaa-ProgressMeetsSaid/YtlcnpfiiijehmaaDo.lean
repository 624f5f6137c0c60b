/-
  Do, of what fits a view that may be.
-/
import Derived.Test.YtlcnpfiiijehmaaTry
import Derived.Test.YtlcnpfiiijehmaaColl
import Derived.Test.YtlcnpfiiijehmaaOwnQ
import Derived.Test.YtlcnpfiiijehmaaPhase
set_option linter.unusedVariables false
set_option linter.unusedSimpArgs false
namespace Go.Proofs.Ytlcnpfiiijehmaa
open Go.RowKit
attribute [local go_sem] Oper.semAt_some

noncomputable def keepL (v : Vw) (cut : Int) : List Ent := if cut = 0 then v.l else v.l.take (cut - v.base - 1).toNat
def RetDo (v : Vw) (es : List Ent) (w : World) (e : Ending) (w' : World) : Prop := ∃ A n c, e = .returned (.agg #[.int .i64 v.base, .int .i64 v.term, .slice A n c]) ∧ OwnsQE w.heap.size (.slice A n c) n es w' ∧ Below w.heap.size w w'
theorem rowB_index : ∀ {i t : Int} {l : List Ent}, rowB i t l = true → ∀ (k : Nat) (x : Ent), l[k]? = some x → x.index = i + 1 + (k : Int)
  | i, t, [], _, k, x, hx => by simp at hx
  | i, t, y :: r, h, k, x, hx => by
    have h0 : rightE y = true ∧ y.index = i + 1 ∧ t ≤ y.term ∧ rowB (i + 1) y.term r = true := by
      simp only [rowB, Bool.and_eq_true, beq_iff_eq, decide_eq_true_eq] at h
      exact ⟨h.1.1.1, h.1.1.2, h.1.2, h.2⟩
    cases k with
    | zero =>
      simp at hx
      subst hx
      rw [h0.2.1]
      simp
    | succ k =>
      have := rowB_index h0.2.2.2 k x (by simpa using hx)
      rw [this]
      omega
theorem fromA_zero {v : Vw} (h : rightV v = true) : fromA 0 v.l = v.l := by
  obtain ⟨b1, b2, t1, t2, n1, hr⟩ := rightV_iff.1 h
  unfold fromA
  rw [List.filter_eq_self]
  intro x hx
  obtain ⟨k, hk, rfl⟩ := List.getElem_of_mem hx
  have := rowB_index hr k _ (List.getElem?_eq_getElem hk)
  simp only [decide_eq_true_eq]
  omega
theorem blockB' {w W : World} {b : Nat} {o : Obj} (h : w.heap[b]? = some o) (hb : Below w.heap.size w W) : W.heap[b]? = some o := (hb.block b (Array.getElem?_eq_some_iff.1 h).1).trans h
abbrev VZ : Obj := .cells #[.int .i64 0, .int .i64 0, .slice none 0 0] 26
theorem size_drew_alloc (w : World) (o : Obj) : (w.alloc o).drew.heap.size = w.heap.size + 1 := World.size_alloc w o
theorem view_set3 {W : World} {B : Nat} {v : Vw} {d : Value} (h : W.heap[B]? = some VZ) : ViewAt (((W.setCell ⟨B, 0, none⟩ (.int .i64 v.base)).setCell ⟨B, 1, none⟩ (.int .i64 v.term)).setCell ⟨B, 2, none⟩ d) B v d := by
  unfold ViewAt
  simp [World.setCell, Array.getElem?_modify, h]
theorem OwnsE.far3 {base n B : Nat} {v : Value} {es : List Ent} {W : World} (h : OwnsE base v n es W) (hB : B < base) (a b c : Value) : OwnsE base v n es (((W.setCell ⟨B, 0, none⟩ a).setCell ⟨B, 1, none⟩ b).setCell ⟨B, 2, none⟩ c) :=
  ((h.far ⟨B, 0, none⟩ hB a).far ⟨B, 1, none⟩ hB b).far ⟨B, 2, none⟩ hB c
theorem q_block_ge {w : World} {base n size b : Nat} {e : TypeId} {v : Value} {xs : List Value} (h : ownsQ w base e size v n xs) (hb : v.ownBlock = some b) : base ≤ b := by
  rcases h.2 with ⟨rfl, _⟩ | ⟨g, o, cap, cur, rfl, hg, _⟩
  · simp [Value.ownBlock] at hb
  · simp [Value.ownBlock] at hb
    omega
theorem view_set2 {W : World} {B : Nat} {v : Vw} {d d' : Value} (h : ViewAt W B v d) : ViewAt (W.setCell ⟨B, 2, none⟩ d') B v d' := by
  unfold ViewAt at *
  simp [World.setCell, Array.getElem?_modify, h]
theorem view_set3' {W : World} {B : Nat} {v v0 : Vw} {d d0 : Value} (h : ViewAt W B v0 d0) : ViewAt (((W.setCell ⟨B, 0, none⟩ (.int .i64 v.base)).setCell ⟨B, 1, none⟩ (.int .i64 v.term)).setCell ⟨B, 2, none⟩ d) B v d := by
  unfold ViewAt at *
  simp [World.setCell, Array.getElem?_modify, h]
theorem OwnsQE.far3 {base n B : Nat} {v : Value} {es : List Ent} {W : World} {v0 : Vw} {d0 : Value} (h : OwnsQE base v n es W) (hB : ViewAt W B v0 d0) (a b c : Value) : OwnsQE base v n es (((W.setCell ⟨B, 0, none⟩ a).setCell ⟨B, 1, none⟩ b).setCell ⟨B, 2, none⟩ c) := by
  have h1 := h.far ⟨B, 0, none⟩ a rfl hB (by decide) (by decide)
  have e1 : (W.setCell ⟨B, 0, none⟩ a).heap[B]? = some (.cells #[a, .int .i64 v0.term, d0] 26 (0, 0)) := by
    unfold ViewAt at hB
    simp [World.setCell, Array.getElem?_modify, hB]
  have h2 := h1.far ⟨B, 1, none⟩ b rfl e1 (by decide) (by decide)
  have e2 : ((W.setCell ⟨B, 0, none⟩ a).setCell ⟨B, 1, none⟩ b).heap[B]? = some (.cells #[a, b, d0] 26 (0, 0)) := by
    generalize W.setCell ⟨B, 0, none⟩ a = W1 at e1 ⊢
    simp [World.setCell, Array.getElem?_modify, e1]
  exact h2.far ⟨B, 2, none⟩ c rfl e2 (by decide) (by decide)
theorem do_view {wr WB w6a w7 : World} {base bo kk c3 : Nat} {v : Vw} {A3 : Option Addr} {cells : List Value} {row : Value} (hvw : ∀ W', Below WB.heap.size WB W' → ViewAt W' bo v (.slice A3 kk c3)) (hba : Below WB.heap.size WB w6a)
    (ho : ownsQ wr base 54 4 row kk cells) (hbw : Below wr.heap.size wr WB) (hg : w6a.grownBy w7 row.ownBlock) (hv3 : ViewAt wr bo v (.slice A3 kk c3)) : ViewAt w7 bo v (.slice A3 kk c3) := by
  have h1 := hvw w6a hba
  exact (hg.block bo (Array.getElem?_eq_some_iff.1 h1).1 (fun e => q_apart ho hv3 (by decide) e.symm)).trans h1
theorem do_box {wr WB w6a w7 : World} {base bx kk : Nat} {t i kd : Int} {d : Value} {cells : List Value} {row : Value} (hbx : wr.heap.size = bx) (hbw : Below wr.heap.size wr WB) (hba : Below WB.heap.size WB w6a) (hg : w6a.grownBy w7 row.ownBlock)
    (ho : ownsQ wr base 54 4 row kk cells) (hb : WB.heap[bx]? = some (.cells #[.int .i64 t, .int .i64 i, .int .i64 kd, d] 54 (0, 0))) :
    w7.cell? ⟨bx, 0, none⟩ = some (.int .i64 t) ∧ w7.cell? ⟨bx, 1, none⟩ = some (.int .i64 i) ∧ w7.cell? ⟨bx, 2, none⟩ = some (.int .i64 kd) ∧ w7.cell? ⟨bx, 3, none⟩ = some d := by
  have h1 := (hba.block bx (Array.getElem?_eq_some_iff.1 hb).1).trans hb
  have h2 := (hg.block bx (Array.getElem?_eq_some_iff.1 h1).1 (fun e => by have := q_block_lt ho e.symm; omega)).trans h1
  exact ⟨by rw [cell_of_row _ _ 0 _ _ _ h2]; rfl, by rw [cell_of_row _ _ 1 _ _ _ h2]; rfl, by rw [cell_of_row _ _ 2 _ _ _ h2]; rfl, by rw [cell_of_row _ _ 3 _ _ _ h2]; rfl⟩
theorem do_box2 {w7 : World} {bx bo : Nat} {v : Vw} {d0 : Value} {t i kd : Int} {d : Value} (_ : ViewAt w7 bo v d0) (hne : bx ≠ bo) (h : w7.cell? ⟨bx, 0, none⟩ = some (.int .i64 t) ∧ w7.cell? ⟨bx, 1, none⟩ = some (.int .i64 i) ∧ w7.cell? ⟨bx, 2, none⟩ = some (.int .i64 kd) ∧ w7.cell? ⟨bx, 3, none⟩ = some d) (u : Value) :
    (w7.setCell ⟨bo, 2, none⟩ u).cell? ⟨bx, 0, none⟩ = some (.int .i64 t) ∧ (w7.setCell ⟨bo, 2, none⟩ u).cell? ⟨bx, 1, none⟩ = some (.int .i64 i) ∧ (w7.setCell ⟨bo, 2, none⟩ u).cell? ⟨bx, 2, none⟩ = some (.int .i64 kd) ∧ (w7.setCell ⟨bo, 2, none⟩ u).cell? ⟨bx, 3, none⟩ = some d := by
  have key : ∀ j, (w7.setCell ⟨bo, 2, none⟩ u).cell? ⟨bx, j, none⟩ = w7.cell? ⟨bx, j, none⟩ := fun j => World.cell?_setCell_other _ _ _ _ (fun h => by injection h with h1; omega)
  rw [key, key, key, key]
  exact h
theorem set3_far (W : World) (g B j : Nat) (hne : B ≠ g) (a b c : Value) : (((W.setCell ⟨B, 0, none⟩ a).setCell ⟨B, 1, none⟩ b).setCell ⟨B, 2, none⟩ c).cell? ⟨g, j, none⟩ = W.cell? ⟨g, j, none⟩ := by
  rw [World.cell?_setCell_other _ _ _ _ (fun h => by injection h with h1; omega), World.cell?_setCell_other _ _ _ _ (fun h => by injection h with h1; omega), World.cell?_setCell_other _ _ _ _ (fun h => by injection h with h1; omega)]
theorem two_cells {u W : World} {a b : Value} {ta tb : TypeId} (h : (u.alloc (.cells #[a] ta)).alloc (.cells #[b] tb) = W) : W.cell? ⟨u.heap.size, 0, none⟩ = some a ∧ W.cell? ⟨u.heap.size + 1, 0, none⟩ = some b ∧ Below u.heap.size u W := by
  subst h
  refine ⟨((Box.new u ta a).alloc _).cell, ?_, ((Below.refl _ _).alloc (Nat.le_refl _) _).alloc (by simp) _⟩
  have := (Box.new (u.alloc (.cells #[a] ta)) tb b).cell
  rwa [World.size_alloc] at this
set_option maxRecDepth 16384 in
set_option maxHeartbeats 16000000 in
theorem do_any (v : Vw) (yes : Bool) (mt cut : Int) (add : List Ent) (A L : Option Addr) (n c m cl : Nat) (w : World) (hn : v.l.length = n) (hr : rightV v = true) (h : SeenE w A v.l) (hs : SmallE v.l) (hcut : cut = 0 ∨ (v.base < cut ∧ cut ≤ lastV v)) (hm : add.length = m) (hm2 : m ≤ 4096) (hL : SeenE w L add) (hsl : SmallE add)
    (hout : rightV ⟨v.base, v.term, keepL v cut ++ add⟩ = true) :
    Calls Try.prog 22 #[v.val (.slice A n c), .agg #[.bool yes, .int .i64 mt, .int .i64 cut, .slice L m cl]] w (RetDo v (keepL v cut ++ add) w) := by
  obtain ⟨b1, b2, t1, t2, n1, hrw⟩ := rightV_iff.1 hr
  rw [hn] at n1
  obtain ⟨W0, hW0⟩ : ∃ W0, w.alloc (.cells #[.int .i64 v.base, .int .i64 v.term, .slice A n c] 26) = W0 := ⟨_, rfl⟩
  obtain ⟨W1, hW1⟩ : ∃ W1, W0.alloc (.cells #[.bool yes, .int .i64 mt, .int .i64 cut, .slice L m cl] 56) = W1 := ⟨_, rfl⟩
  obtain ⟨W, hW⟩ : ∃ W, W1.alloc (.cells #[.int .i64 0, .int .i64 0, .slice none 0 0] 26) = W := ⟨_, rfl⟩
  have hz0 : W0.heap.size = w.heap.size + 1 := by rw [← hW0]; simp
  have hz1 : W1.heap.size = w.heap.size + 2 := by rw [← hW1, World.size_alloc, hz0]
  have hz : W.heap.size = w.heap.size + 3 := by rw [← hW, World.size_alloc, hz1]
  have hb0 : Below w.heap.size w W0 := by rw [← hW0]; exact (Below.refl _ _).alloc (Nat.le_refl _) _
  have hb1 : Below W0.heap.size W0 W1 := by rw [← hW1]; exact (Below.refl _ _).alloc (Nat.le_refl _) _
  have hb2 : Below W1.heap.size W1 W := by rw [← hW]; exact (Below.refl _ _).alloc (Nat.le_refl _) _
  have hb : Below w.heap.size w W := below_step (below_step hb0 hb0.size hb1) (by omega) hb2
  have hrv : ViewAt W w.heap.size v (.slice A n c) := (ViewAt.below (by rw [← hW0]; exact heap_alloc_new w _ : ViewAt W0 w.heap.size v (.slice A n c)) hb1).below hb2
  have hrf : FitAt W (w.heap.size + 1) yes mt cut (.slice L m cl) := by
    have h9 : FitAt W1 W0.heap.size yes mt cut (.slice L m cl) := by rw [← hW1]; exact heap_alloc_new W0 _
    rw [hz0] at h9
    exact h9.keep hb2
  have hrr : ViewAt W (w.heap.size + 2) ⟨0, 0, []⟩ (.slice none 0 0) := by
    have h9 : ViewAt W W1.heap.size ⟨0, 0, []⟩ (.slice none 0 0) := by rw [← hW]; exact heap_alloc_new W1 _
    rwa [hz1] at h9
  have HRT := Lib.hid (rightv_any v A n c W hn (by omega) (h.below hb) hs)
  rw [hr] at HRT
  have HLA := Lib.hid (fun W' => last_any v A n c W' hn (by omega) (by omega) (by omega))
  obtain ⟨lv, hlv⟩ : ∃ lv, lastV v = lv := ⟨_, rfl⟩
  have hlv2 : lv = v.base + (n : Int) := by rw [← hlv]; unfold lastV; rw [hn]
  rw [hlv] at hcut
  have hf0 := fromA_zero hr
  have HCO := Lib.hid (fun (B1 B2 : Nat) (W' : World) (hb' : Below w.heap.size w W') h1 h2 => collect_any B1 B2 0 v.l A n c w W' hb' hn (by omega) h hs h1 h2)
  rw [hf0] at HCO
  have HOUT := Lib.hid hout
  have HN := Lib.hid hn
  have HM := Lib.hid hm
  have HLV2 := Lib.hid hlv2
  have HLVE := Lib.hid hlv
  have HS := Lib.hid hs
  have HL := Lib.hid hL
  have HSL := Lib.hid hsl
  have HB := Lib.hid hb
  have HZ := Lib.hid hz
  have HW0 := Lib.hid hW0
  have HW1 := Lib.hid hW1
  have HW := Lib.hid hW
  have HCUT := Lib.hid hcut
  unfold Vw.val at HRT HLA ⊢
  rw [hlv] at HLA
  have hlvb : lv ≤ 1099511627776 := by omega
  have hlv0 : 0 ≤ lv := by omega
  obtain ⟨gb, hgb⟩ : ∃ gb, w.heap.size = gb := ⟨_, rfl⟩
  have HGB := Lib.hid hgb
  have HK : Hid (∀ W', Below W.heap.size W W' → (W'.cell? ⟨gb, 0, none⟩ = some (.int .i64 v.base) ∧ W'.cell? ⟨gb, 1, none⟩ = some (.int .i64 v.term) ∧ W'.cell? ⟨gb, 2, none⟩ = some (.slice A n c)) ∧ FitAt W' (gb + 1) yes mt cut (.slice L m cl) ∧ ViewAt W' (gb + 2) ⟨0, 0, []⟩ (.slice none 0 0)) := Lib.hid (fun W' hb' => ⟨by rw [← hgb]; exact (hrv.below hb').cells, by rw [← hgb]; exact hrf.keep hb', by rw [← hgb]; exact hrr.below hb'⟩)
  clear hW0 hW1 hW hz0 hz1 hz hb0 hb1 hb2 hb hrv hrf hrr hn hs h hL hsl hrw hlv hlv2 hr t1 t2 hgb hm hcut hout hf0
  obtain ⟨⟨k0, k1, k2⟩, _⟩ := HK.out W (Below.refl _ _)
  go_enter Try.func22, Try.ntmps22
  go_upto_region 1 with fail
  rw [HW0.out]
  try rw [HW1.out]
  try rw [HW.out]
  try rw [HGB.out]
  try rw [show gb + 1 + 1 = gb + 2 from rfl]
  go_upto_region 3 with (first
    | (go_at_call 24; refine HRT.out.mono ?_; rintro e w2 ⟨rfl, hb2⟩; have H2 := Lib.hid hb2; clear hb2)
    | fail)
  clear k0 k1 k2
  go_cut [5] from 14 to 22 (fun s5 wc => ∃ bo A' c', s5 = .pointer (some ⟨bo, 0, none⟩) ∧ ViewAt wc bo v (.slice A' n c') ∧ OwnsE W.heap.size (.slice A' n c') n v.l wc ∧ Below W.heap.size W wc ∧ W.heap.size ≤ bo)
  case first =>
    have bd : Below W.heap.size W w2.drew := H2.out.drew
    have bd2 : Below W.heap.size W (w2.alloc VZ).drew := (H2.out.alloc H2.out.size _).drew
    have HZR : Hid ((w2.drew.alloc VZ).heap[w2.heap.size]? = some VZ) := Lib.hid (heap_alloc_new w2.drew _)
    have HZL : Hid (w2.heap.size < (w2.drew.alloc VZ).heap.size) := Lib.hid (by rw [World.size_alloc]; exact Nat.lt_succ_self _)
    go_region_held3 (fun W' => W'.cell? ⟨gb, 0, none⟩ = some (.int .i64 v.base) ∧ W'.cell? ⟨gb, 1, none⟩ = some (.int .i64 v.term) ∧ W'.cell? ⟨gb, 2, none⟩ = some (.slice A n c))
      (first
        | (refine (HK.out _ ?_).1; assumption)
        | (exact (HK.out _ (hb5.alloc hb5.size _)).1)
        | (exact (HK.out _ (hb6'.alloc hb6'.size _)).1)
        | (exact (HK.out _ (below_set (below_set (below_set hb6' _ H2.out.size _) _ H2.out.size _) _ H2.out.size _)).1)
        | (exact (HK.out _ (below_set (below_set (below_set hb6' _ hb5.size _) _ hb5.size _) _ hb5.size _)).1)
        | fail)
      (first
        | (go_at_call 43; refine (behind_any _ rfl _ _).mono ?_; rintro e w5 ⟨rfl, hw5⟩; obtain ⟨y1, y2, hb25⟩ := two_cells hw5; have hb5 : Below W.heap.size W w5 := below_step (show Below W.heap.size W _ by assumption) (Below.size (by assumption)) hb25; try (have hzr : w5.heap[w2.heap.size]? = some VZ := (hb25.block _ HZL.out).trans HZR.out); (first | (rw [size_drew_alloc] at y1 y2) | (change w5.cell? ⟨w2.heap.size, 0, none⟩ = _ at y1; change w5.cell? ⟨w2.heap.size + 1, 0, none⟩ = _ at y2)); clear hw5 hb25)
        | (have hq := hzr; go_at_call 44; (with_reducible show Calls _ _ _ w5 _); refine (HCO.out _ _ w5 (below_step HB.out HB.out.size hb5) (by exact y1) (by exact y2)).mono ?_; rintro e w6 ⟨A6, n6, c6, rfl, hn6, ho6, hb6⟩; obtain rfl : n6 = n := hn6.trans HN.out; have hb6' := below_step hb5 hb5.size hb6; have HO6 := Lib.hid ho6; have hz6 := blockB' hzr hb6; have d0 := cell_of_row w6 w2.heap.size 0 _ _ _ hz6; have d1 := cell_of_row w6 w2.heap.size 1 _ _ _ hz6; have d2 := cell_of_row w6 w2.heap.size 2 _ _ _ hz6; have df := frozen_of_cells hz6; simp at d0 d1 d2; clear ho6 hb6 hn6)
        | (go_at_call 44; (with_reducible show Calls _ _ _ w5 _); refine (HCO.out _ _ w5 (below_step HB.out HB.out.size hb5) (by exact y1) (by exact y2)).mono ?_; rintro e w6 ⟨A6, n6, c6, rfl, hn6, ho6, hb6⟩; obtain rfl : n6 = n := hn6.trans HN.out; have hb6' := below_step hb5 hb5.size hb6; have HO6 := Lib.hid ho6; have HMK3 : Hid True := Lib.hid trivial; clear ho6 hb6 hn6)
        | (go_at_call 44; refine (HCO.out _ _ (w5.alloc VZ) (below_step HB.out HB.out.size (hb5.alloc hb5.size _)) (by exact (((Below.refl w5.heap.size w5).alloc (Nat.le_refl _) _).cell (World.block_lt_of_cell? _ _ y1)).trans y1) (by exact (((Below.refl w5.heap.size w5).alloc (Nat.le_refl _) _).cell (World.block_lt_of_cell? _ _ y2)).trans y2)).mono ?_; rintro e w6 ⟨A6, n6, c6, rfl, hn6, ho6, hb6⟩; obtain rfl : n6 = n := hn6.trans HN.out; have hb6' := below_step (hb5.alloc hb5.size VZ) (Below.size (hb5.alloc hb5.size VZ)) hb6; have HO6 := Lib.hid ho6; have hz6 := blockB' (heap_alloc_new w5 VZ) hb6; have d0 := cell_of_row w6 w5.heap.size 0 _ _ _ hz6; have d1 := cell_of_row w6 w5.heap.size 1 _ _ _ hz6; have d2 := cell_of_row w6 w5.heap.size 2 _ _ _ hz6; have df := frozen_of_cells hz6; simp at d0 d1 d2; clear ho6 hb6 hn6)
        | fail)
    · have hv6 : ViewAt (w6.alloc (Obj.cells #[.int .i64 v.base, .int .i64 v.term, .slice A6 n6 c6] 26)) w6.heap.size v (.slice A6 n6 c6) := heap_alloc_new w6 _
      have HV6 := Lib.hid hv6
      clear hv6
      go_wp2_with fail
      go_meet
      case rel => exact ⟨w6.heap.size, A6, c6, rfl, HV6.out, (HO6.out.below ((Below.refl _ _).alloc (Nat.le_refl _) _)).lower hb5.size, hb6'.alloc hb6'.size _, hb6'.size⟩
    · have hv6 := view_set3 (v := v) (d := .slice A6 n6 c6) hz6
      have HV6 := Lib.hid hv6
      have hl5 := hb5.size
      clear hv6
      go_wp2_with fail
      go_meet
      case rel => exact ⟨w5.heap.size, A6, c6, rfl, HV6.out, (HO6.out.far3 (by rw [World.size_alloc]; omega) _ _ _).lower (by rw [World.size_alloc]; have := hb5.size; omega), below_set (below_set (below_set hb6' _ hl5 _) _ hl5 _) _ hl5 _, hl5⟩
    · have hv6 := view_set3 (v := v) (d := .slice A6 n6 c6) hz6
      have HV6 := Lib.hid hv6
      have hl5 := H2.out.size
      have hl6 : w2.heap.size < w5.heap.size := (Array.getElem?_eq_some_iff.1 hzr).1
      clear hv6
      go_wp2_with fail
      go_meet
      case rel => exact ⟨w2.heap.size, A6, c6, rfl, HV6.out, (HO6.out.far3 hl6 _ _ _).lower hb5.size, below_set (below_set (below_set hb6' _ hl5 _) _ hl5 _) _ hl5 _, hl5⟩
  case rest =>
    obtain ⟨bo, A6, c6, rfl, hv6, ho6, hb6, hge6⟩ := hcut
    have HV6 := Lib.hid hv6
    have HO6 := Lib.hid ho6
    have HB6 := Lib.hid hb6
    have HBO0 := Lib.hid hge6
    obtain ⟨⟨c0, c1, c2⟩, hfit, hres⟩ := HK.out wc hb6
    obtain ⟨i0, i1, i2⟩ := hv6.cells
    obtain ⟨f0, f1, f2, f3⟩ := hfit.cells
    clear hv6 ho6 hb6 hge6 hfit hres
    by_cases hc0 : cut = 0
    · subst hc0
      have HE0 : Hid (keepL v 0 = v.l) := Lib.hid (by unfold keepL; rw [if_pos rfl])
      have g1 : decide (v.base < 0) = false := by simp; omega
      go_upto_region 4 with fail
      clear c0 c1 c2 i0 i1 i2 f0 f1 f2 f3
      refine wp_region_calm (Later wc) (by kernel_rfl) (by kernel_rfl) (Below.refl _ _).drew (fun hne => ?_)
      have p0 := fun p : InS (Later wc) => (HK.out p.w (below_step HB6.out HB6.out.size p.h)).1.1
      have p1 := fun p : InS (Later wc) => (HK.out p.w (below_step HB6.out HB6.out.size p.h)).1.2.1
      have p2 := fun p : InS (Later wc) => (HK.out p.w (below_step HB6.out HB6.out.size p.h)).1.2.2
      have p3 := fun p : InS (Later wc) => (HK.out p.w (below_step HB6.out HB6.out.size p.h)).2.1.cells.2.2.1
      repeat (go_big_quiet_step (first | fail))
      refine wpQuiet_nil ?_
      rintro _ ⟨p, rfl⟩
      obtain ⟨wq, hwq⟩ : ∃ wq, p.w = wq := ⟨_, rfl⟩
      have hbq := p.h
      rw [hwq] at hbq
      rw [hwq]
      clear hwq p0 p1 p2 p3
      have HBQ := Lib.hid (below_step HB6.out HB6.out.size hbq)
      have HVQ := Lib.hid (HV6.out.below hbq)
      obtain ⟨es0, hes0⟩ : ∃ es0, v.l = es0 := ⟨_, rfl⟩
      have HOQ : Hid (OwnsQE W.heap.size (.slice A6 n c6) n es0 wq) := Lib.hid (by rw [← hes0]; exact (HO6.out.below hbq).q)
      have HES : Hid (keepL v 0 = es0) := Lib.hid (by rw [HE0.out, hes0])
      obtain ⟨i0, i1, i2⟩ := HVQ.out.cells
      obtain ⟨f0, f1, f2, f3⟩ := (HK.out wq HBQ.out).2.1.cells
      have hk0 : n ≤ 4096 := n1
      clear hbq hes0
      have HST : Hid (∃ (k : Nat) (A2 : Option Addr) (c2 : Nat), Value.int .i64 0 = .int .i64 (k : Int) ∧ k ≤ m ∧ ViewAt wq bo v (.slice A2 (n + k) c2) ∧ OwnsQE W.heap.size (.slice A2 (n + k) c2) (n + k) (es0 ++ add.take k) wq ∧ Below W.heap.size W wq) := Lib.hid ⟨0, A6, c6, rfl, Nat.zero_le _, HVQ.out, by rw [List.take_zero, List.append_nil]; exact HOQ.out, HBQ.out⟩
      go_upto_region 10 with fail
      obtain ⟨f0, f1, f2, f3⟩ := (HK.out wq HBQ.out).2.1.cells
      go_upto_region 11 with fail
      clear f0 f1 f2 f3
      go_loopw [65] (fun s65 wr => ∃ (k : Nat) (A2 : Option Addr) (c2 : Nat), s65 = .int .i64 (k : Int) ∧ k ≤ m ∧ ViewAt wr bo v (.slice A2 (n + k) c2) ∧ OwnsQE W.heap.size (.slice A2 (n + k) c2) (n + k) (es0 ++ add.take k) wr ∧ Below W.heap.size W wr) (fun s65 _ => m - (intOf s65).toNat)
      case atStart => exact HST.out
      case round =>
        obtain ⟨k, A3, c3, rfl, hk, hv3, ⟨cells, o1, o2⟩, hb3⟩ := hrel
        have HV3 := Lib.hid hv3
        have O1 := Lib.hid o1
        have O2 := Lib.hid o2
        have HB3 := Lib.hid hb3
        clear HST hv3 o1 o2 hb3
        obtain ⟨kk, hkk⟩ : ∃ kk, n + k = kk := ⟨_, rfl⟩
        rw [hkk] at HV3 O1
        have HKK := Lib.hid hkk
        have hkk8 : kk ≤ 8200 := by omega
        clear hkk
        by_cases hlt : k < m
        · have hki : (k : Int) < (m : Int) := by omega
          have hkl : k < add.length := by rw [HM.out]; exact hlt
          obtain ⟨x, hx⟩ : ∃ x, add[k] = x := ⟨_, rfl⟩
          have hget : add[k]? = some x := by rw [List.getElem?_eq_getElem hkl, hx]
          have HTK : Hid (add.take (k + 1) = add.take k ++ [x]) := Lib.hid (by rw [List.take_succ_eq_append_getElem hkl, hx])
          obtain ⟨ad, A1, c1, rfl, hcs, hc1, hsd⟩ := (HL.out.below (below_step HB.out HB.out.size HB3.out)).at hget
          have hsm := HSL.out x (by rw [← hx]; exact List.getElem_mem hkl)
          obtain ⟨p, hp⟩ : ∃ p, x.data.length = p := ⟨_, rfl⟩
          rw [hp] at hcs hc1 hsm
          have HP := Lib.hid hp
          obtain ⟨WB, hWB, hbW, hzW, hcW⟩ := box_ent x (.slice A1 p c1) wr
          obtain ⟨bx, hbx⟩ : ∃ bx, wr.heap.size = bx := ⟨_, rfl⟩
          rw [hbx] at hcW
          have HCS := Lib.hid hcs
          have HWB := Lib.hid hWB
          have HBX := Lib.hid hbx
          have HBW := Lib.hid hbW
          have HOC := Lib.hid (fun W' (hb' : Below WB.heap.size WB W') => own_any x A1 p c1 W' hp hc1 hsm ((hsd.below hbW).below hb'))
          rw [Ent.val_eq] at HOC
          unfold Ent.cells at HOC
          have HB0 : Hid (WB.heap[bx]? = some (.cells #[.int .i64 x.term, .int .i64 x.index, .int .i64 x.kind, .slice A1 p c1] 54 (0, 0))) := Lib.hid (by rw [← hWB, ← hbx]; exact box_ent_at x (.slice A1 p c1) wr)
          have HNE : Hid (bx ≠ bo) := Lib.hid (by have := (Array.getElem?_eq_some_iff.1 HV3.out).1; omega)
          have HKW : Hid (∀ W', Below WB.heap.size WB W' → W'.cell? ⟨bx, 0, none⟩ = some (.int .i64 x.term) ∧ W'.cell? ⟨bx, 1, none⟩ = some (.int .i64 x.index) ∧ W'.cell? ⟨bx, 2, none⟩ = some (.int .i64 x.kind) ∧ W'.cell? ⟨bx, 3, none⟩ = some (.slice A1 p c1)) := Lib.hid (fun W' hb' => ⟨(hb'.cell (World.block_lt_of_cell? _ _ (hcW 0 _ rfl))).trans (hcW 0 _ rfl), (hb'.cell (World.block_lt_of_cell? _ _ (hcW 1 _ rfl))).trans (hcW 1 _ rfl), (hb'.cell (World.block_lt_of_cell? _ _ (hcW 2 _ rfl))).trans (hcW 2 _ rfl), (hb'.cell (World.block_lt_of_cell? _ _ (hcW 3 _ rfl))).trans (hcW 3 _ rfl)⟩)
          have HVW : Hid (∀ W', Below WB.heap.size WB W' → ViewAt W' bo v (.slice A3 kk c3)) := Lib.hid (fun W' hb' => (HV3.out.below hbW).below hb')
          clear hcs hWB hbW hzW hcW hsd hx hget hkl hp hbx
          obtain ⟨c0', c1', c2'⟩ := HV3.out.cells
          go_upto_region 13 with (first
            | (refine wpList_load_far rfl 54 _ rfl (ad.add (k * 4)) rfl (x.cells (.slice A1 p c1)) _ HCS.out Try.underlying54 rfl (by kernel_rfl) ?_)
            | (refine wpList_store_mid rfl 54 _ _ rfl wr.heap.size 0 (x.cells (.slice A1 p c1)).toArray rfl rfl (there_one4 wr) (by kernel_rfl) (ent_ones x A1 p c1) ?_)
            | fail)
          have hWW := HWB.out
          unfold zeros4 at hWW
          rw [hWW, HBX.out]
          clear hWW c0' c1' c2'
          have bd : Below WB.heap.size WB WB.drew := (Below.refl _ _).drew
          have m1 := (HVW.out WB (Below.refl _ _)).cells.2.2
          have m2 := (HVW.out WB.drew bd).cells.2.2
          refine wp_region_T 7 (fun W' => W'.cell? ⟨bx, 0, none⟩ = some (.int .i64 x.term) ∧ W'.cell? ⟨bx, 1, none⟩ = some (.int .i64 x.index) ∧ W'.cell? ⟨bx, 2, none⟩ = some (.int .i64 x.kind) ∧ W'.cell? ⟨bx, 3, none⟩ = some (.slice A1 p c1) ∧ W'.cell? ⟨bo, 2, none⟩ = some (.slice A3 kk c3)) (by kernel_rfl) ?_
          have hS0 := And.intro (HKW.out WB.drew bd).1 (And.intro (HKW.out WB.drew bd).2.1 (And.intro (HKW.out WB.drew bd).2.2.1 (And.intro (HKW.out WB.drew bd).2.2.2 m2)))
          refine wpAnyT_take (i := 0) (v := ?v0) rfl (by kernel_rfl) (by kernel_rfl) (by kernel_rfl) (by kernel_rfl) (fun _ _ _ h => h) rfl (fun w' hS => ?y0) hS0 ?z0
          case y0 => (obtain ⟨s0, s1, s2, s3, s4⟩ := hS; go_simp; with_reducible rfl)
          try simp only [Act.put, List.getElem_toArray, List.getElem_cons_zero, List.getElem_cons_succ, List.setIfInBounds_toArray, List.set_cons_zero, List.set_cons_succ]
          refine wpAnyT_take (i := 1) (v := ?v1) rfl (by kernel_rfl) (by kernel_rfl) (by kernel_rfl) (by kernel_rfl) (fun _ _ _ h => h) rfl (fun w' hS => ?y1) hS0 ?z1
          case y1 => (obtain ⟨s0, s1, s2, s3, s4⟩ := hS; go_simp; with_reducible rfl)
          try simp only [Act.put, List.getElem_toArray, List.getElem_cons_zero, List.getElem_cons_succ, List.setIfInBounds_toArray, List.set_cons_zero, List.set_cons_succ]
          refine wpAnyT_take (i := 2) (v := ?v2) rfl (by kernel_rfl) (by kernel_rfl) (by kernel_rfl) (by kernel_rfl) (fun _ _ _ h => h) rfl (fun w' hS => ?y2) hS0 ?z2
          case y2 => (obtain ⟨s0, s1, s2, s3, s4⟩ := hS; go_simp; with_reducible rfl)
          try simp only [Act.put, List.getElem_toArray, List.getElem_cons_zero, List.getElem_cons_succ, List.setIfInBounds_toArray, List.set_cons_zero, List.set_cons_succ]
          refine wpAnyT_one (i := 3) (by kernel_rfl) rfl (fun K' hK => ?_)
          have HK9 := Lib.hid hK
          clear hK
          go_simp
          go_at_call 45
          refine (HOC.out _ bd).mono ?_
          rintro e w6 ⟨A6, c6, rfl, hown6, hb6'⟩
          rw [HP.out]
          rw [HP.out] at hown6
          have hb6 := below_step bd bd.size hb6'
          have HOWN6 := Lib.hid hown6
          have hS6 := And.intro (HKW.out w6 hb6).1 (And.intro (HKW.out w6 hb6).2.1 (And.intro (HKW.out w6 hb6).2.2.1 (And.intro (HKW.out w6 hb6).2.2.2 (HVW.out w6 hb6).cells.2.2)))
          unfold Ent.val
          clear hown6 hb6'
          refine HK9.out _ _ (.inr hS6) ?_
          clear HK9
          try simp only [Act.put, List.getElem_toArray, List.getElem_cons_zero, List.getElem_cons_succ, List.setIfInBounds_toArray, List.set_cons_zero, List.set_cons_succ]
          refine wpAnyT_one (i := 4) (by kernel_rfl) rfl (fun K' hK => ?_)
          have HK9 := Lib.hid hK
          clear hK
          go_simp
          have hba := hb6.alloc hb6.size (.cells #[.int .i64 x.term, .int .i64 x.index, .int .i64 x.kind, .slice A6 p c6] 54)
          have hSa := And.intro (HKW.out _ hba).1 (And.intro (HKW.out _ hba).2.1 (And.intro (HKW.out _ hba).2.2.1 (And.intro (HKW.out _ hba).2.2.2 (HVW.out _ hba).cells.2.2)))
          refine HK9.out _ _ (.inr hSa) ?_
          clear HK9
          try simp only [Act.put, List.getElem_toArray, List.getElem_cons_zero, List.getElem_cons_succ, List.setIfInBounds_toArray, List.set_cons_zero, List.set_cons_succ]
          refine wpAnyT_one (i := 5) (by kernel_rfl) rfl (fun K' hK => ?_)
          have HK9 := Lib.hid hK
          clear hK
          refine step_append_q rfl (.tmp 70) (.tmp 73) 22 (by rfl) W.heap.size 54 (.agg zeros4) 4 48 Try.underlying22 infoE rfl (by decide) (.slice A3 kk c3) kk cells (by rfl) (by exact (((O1.out.keep HBW.out).keep hb6).keep ((Below.refl _ _).alloc (Nat.le_refl _) _))) ⟨w6.heap.size, 0, none⟩ 1 1 (x.cells (.slice A6 p c6)) (by rfl) (by rfl) (by exact sees_new w6 #[.int .i64 x.term, .int .i64 x.index, .int .i64 x.kind, .slice A6 p c6] 54) (cells_ones x A6 p c6) (by decide) (by simp only [maxLen]; omega) (by omega) (by have := hb6.size; have := HBW.out.size; have := HB3.out.size; rw [World.size_alloc]; omega) ?_
          intro A7 c7 w7 hown7 hg7 hat7
          have hv7 := do_view HVW.out hba O1.out HBW.out hg7 HV3.out
          have hs7 := do_box HBX.out HBW.out hba hg7 O1.out HB0.out
          have hS7 := And.intro hs7.1 (And.intro hs7.2.1 (And.intro hs7.2.2.1 (And.intro hs7.2.2.2 hv7.cells.2.2)))
          have m7 := hv7.cells.2.2
          have fz7 := frozen_of_cells hv7
          have HV7 := Lib.hid hv7
          have HOWN7 := Lib.hid hown7
          have HG7 := Lib.hid hg7
          clear hown7 hg7 hat7 hv7 hs7
          refine HK9.out _ _ (.inr hS7) ?_
          clear HK9
          try simp only [Act.put, List.getElem_toArray, List.getElem_cons_zero, List.getElem_cons_succ, List.setIfInBounds_toArray, List.set_cons_zero, List.set_cons_succ]
          refine wpAnyT_one (i := 6) (by kernel_rfl) rfl (fun K' hK => ?_)
          have HK9 := Lib.hid hK
          clear hK
          go_simp
          refine HK9.out _ _ (.inr hS7) ?_
          clear HK9
          try simp only [Act.put, List.getElem_toArray, List.getElem_cons_zero, List.getElem_cons_succ, List.setIfInBounds_toArray, List.set_cons_zero, List.set_cons_succ]
          refine wpAnyT_one (i := 7) (by kernel_rfl) rfl (fun K' hK => ?_)
          have HK9 := Lib.hid hK
          clear hK
          go_simp
          refine HK9.out _ _ (.inl rfl) ?_
          clear HK9
          try simp only [Act.put, List.getElem_toArray, List.getElem_cons_zero, List.getElem_cons_succ, List.setIfInBounds_toArray, List.set_cons_zero, List.set_cons_succ]
          refine wpAnyT_done (by kernel_rfl) ?_ _
          all_goals
            have hb6z := hb6.size
            have hbwz := HBW.out.size
            have hb3z := HB3.out.size
            have hal : Below w6.heap.size w6 (w6.alloc (.cells #[.int .i64 x.term, .int .i64 x.index, .int .i64 x.kind, .slice A6 p c6] 54)) := (Below.refl _ _).alloc (Nat.le_refl _) _
            have hwa : Below wr.heap.size wr (w6.alloc (.cells #[.int .i64 x.term, .int .i64 x.index, .int .i64 x.kind, .slice A6 p c6] 54)) := below_step (below_step HBW.out hbwz hb6) (Nat.le_trans hbwz hb6z) hal
            have hnx := OwnsQE.snoc (x := x) (O1.out.keep hwa) (O2.out.imp fun j y cs _ hl => hl.below hwa) ⟨A6, c6, by rw [HP.out], by rw [HP.out]; exact own_lower (own_keep HOWN6.out hal) (show W.heap.size ≤ WB.heap.size by omega)⟩ HOWN7.out HG7.out
            have hnx2 := hnx.far ⟨bo, 2, none⟩ (.slice A7 (kk + 1) c7) rfl HV7.out (by decide) (by decide)
            have hv8 := view_set2 (d' := .slice A7 (kk + 1) c7) HV7.out
            have hbz := ((below_step HB3.out hb3z hwa).grown HG7.out (by have := hwa.size; omega) (fun b e => q_block_ge O1.out e)).setCell (p := ⟨bo, 2, none⟩) HBO0.out (.slice A7 (kk + 1) c7)
            have HNX := Lib.hid hnx2
            have HV8 := Lib.hid hv8
            have HBZ := Lib.hid hbz
            have HK1 : Hid (n + (k + 1) = kk + 1) := Lib.hid (by have := HKK.out; omega)
            clear hb6z hbwz hb3z hal hwa hnx hnx2 hv8 hbz m1 m2 m7 fz7 bd
            try clear hb6
            try clear hba
            go_wp2_with fail
            go_roundw
            case rel => exact ⟨k + 1, A7, c7, by go_num, hlt, by rw [HK1.out]; exact HV8.out, by rw [HK1.out, HTK.out, ← List.append_assoc]; exact HNX.out, HBZ.out⟩
            case measure => simp [intOf] <;> omega
        · obtain rfl : k = m := by omega
          have hki : ¬ (k : Int) < (k : Int) := by omega
          have hoe : OwnsQE W.heap.size (.slice A3 kk c3) kk (es0 ++ add) wr := ⟨cells, O1.out, by have h9 := O2.out; rwa [List.take_of_length_le (by rw [HM.out]; exact Nat.le_refl _)] at h9⟩
          have hsee := hoe.see
          have hsm : SmallE (es0 ++ add) := by
            intro y hy
            rcases List.mem_append.1 hy with h9 | h9
            · rw [← HES.out] at h9
              unfold keepL at h9
              split at h9
              · exact HS.out y h9
              · exact HS.out y (List.mem_of_mem_take h9)
            · exact HSL.out y h9
          have HRO := Lib.hid (rightv_any ⟨v.base, v.term, es0 ++ add⟩ A3 kk c3 wr hsee.2.1 (by omega) hsee.1 hsm)
          rw [← HES.out, HOUT.out] at HRO
          rw [HES.out] at HRO
          unfold Vw.val at HRO
          dsimp only at HRO
          have HOE := Lib.hid hoe
          obtain ⟨i0, i1, i2⟩ := HV3.out.cells
          clear hoe hsee hsm
          go_upto_region 17 with (first
            | (go_at_call 24; refine HRO.out.mono ?_; rintro e w9 ⟨rfl, hb9⟩; have HB9 := Lib.hid hb9; have hv9 := HV3.out.below hb9; obtain ⟨j0, j1, j2⟩ := hv9.cells; have hr9 := (HK.out w9 (below_step HB3.out HB3.out.size hb9)).2.2; obtain ⟨r0, r1, r2⟩ := hr9.cells; have fr := frozen_of_cells hr9; have HR9 := Lib.hid hr9; clear hb9 hv9 hr9)
            | fail)
          clear i0 i1 i2
          go_wp2_with fail
          have hrowZ := view_set3' (v := v) (d := .slice A3 kk c3) HR9.out
          unfold ViewAt at hrowZ
          refine bodyPost_ret (v := .agg #[.int .i64 v.base, .int .i64 v.term, .slice A3 kk c3]) (results_cell_row rfl _ _ _ _ _ _ _ rfl hrowZ Try.underlying26 rfl (by kernel_rfl)) rfl ?_
          have hgw := HGB.out
          have hzw := HZ.out
          refine ⟨A3, kk, c3, rfl, ?_, ?_⟩
          · rw [HES.out]
            exact (((HOE.out.below HB9.out).far3 HR9.out _ _ _)).lower (by omega)
          · exact below_set (below_set (below_set (below_step HB.out HB.out.size (below_step HB3.out HB3.out.size HB9.out)) _ (by show _ ≤ gb + 2; omega) _) _ (by show _ ≤ gb + 2; omega) _) _ (by show _ ≤ gb + 2; omega) _

    · obtain ⟨g1, g2⟩ : v.base < cut ∧ cut ≤ lv := by
        rcases HCUT.out with h9 | h9
        · exact absurd h9 hc0
        · exact h9
      obtain ⟨hi, hhi⟩ : ∃ hi : Nat, cut - v.base - 1 = (hi : Int) := ⟨(cut - v.base - 1).toNat, by omega⟩
      have hin : hi ≤ n := by have := HLV2.out; omega
      have HE0 : Hid (keepL v cut = v.l.take hi) := Lib.hid (by unfold keepL; rw [if_neg hc0, hhi, Int.toNat_natCast])
      have e1 : IntKind.i64.wrap (cut - v.base) = cut - v.base := IntWalk.i64_in _ (by omega)
      have e2 : IntKind.i64.wrap (cut - v.base - 1) = (hi : Int) := by rw [← hhi]; exact IntWalk.i64_in _ (by omega)
      have hc0' : (cut == 0) = false := by simpa using hc0
      have hcap : hi ≤ c6 := Nat.le_trans hin HO6.out.see.2.2
      have HHI := Lib.hid hhi
      clear hhi
      go_upto_region 4 with fail
      clear c0 c1 c2 i0 i1 i2 f0 f1 f2 f3
      refine wp_region_calm (Later wc) (by kernel_rfl) (by kernel_rfl) (Below.refl _ _).drew (fun hne => ?_)
      have p0 := fun p : InS (Later wc) => (HK.out p.w (below_step HB6.out HB6.out.size p.h)).1.1
      have p1 := fun p : InS (Later wc) => (HK.out p.w (below_step HB6.out HB6.out.size p.h)).1.2.1
      have p2 := fun p : InS (Later wc) => (HK.out p.w (below_step HB6.out HB6.out.size p.h)).1.2.2
      have p3 := fun p : InS (Later wc) => (HK.out p.w (below_step HB6.out HB6.out.size p.h)).2.1.cells.2.2.1
      repeat (go_big_quiet_step (first
        | (go_at_call 38; exact calm_of (HLA.out _) (by rintro e w' ⟨rfl, hb⟩; exact ⟨rfl, later_step (InS.h _) hb⟩))
        | fail))
      refine wpQuiet_nil ?_
      rintro _ ⟨p, rfl⟩
      obtain ⟨wp, hwp⟩ : ∃ wp, p.w = wp := ⟨_, rfl⟩
      have hbp := p.h
      rw [hwp] at hbp
      rw [hwp]
      clear hwp p0 p1 p2 p3
      have HBP := Lib.hid (below_step HB6.out HB6.out.size hbp)
      have HVP := Lib.hid (HV6.out.below hbp)
      have HOP := Lib.hid ((HO6.out.below hbp).q)
      obtain ⟨i0, i1, i2⟩ := HVP.out.cells
      have fv := frozen_of_cells HVP.out
      obtain ⟨⟨c0, c1, c2⟩, hfp, _⟩ := HK.out wp HBP.out
      obtain ⟨f0, f1, f2, f3⟩ := hfp.cells
      clear hbp hfp
      go_upto_region 10 with fail
      have hvq := view_set2 (d' := .slice A6 hi hi) HVP.out
      have hoq := (HOP.out.cut hin).far ⟨bo, 2, none⟩ (.slice A6 hi hi) rfl HVP.out (by decide) (by decide)
      have hbq := HBP.out.setCell (p := ⟨bo, 2, none⟩) HBO0.out (.slice A6 hi hi)
      obtain ⟨wq, hwq⟩ : ∃ wq, wp.setCell ⟨bo, 2, none⟩ (.slice A6 hi hi) = wq := ⟨_, rfl⟩
      rw [hwq] at hvq hoq hbq
      rw [hwq]
      clear hwq i0 i1 i2 c0 c1 c2 f0 f1 f2 f3 fv e1 e2 hc0' g1 g2
      have HBQ := Lib.hid hbq
      have HVQ := Lib.hid hvq
      obtain ⟨es0, hes0⟩ : ∃ es0, v.l.take hi = es0 := ⟨_, rfl⟩
      have HOQ : Hid (OwnsQE W.heap.size (.slice A6 hi hi) hi es0 wq) := Lib.hid (by rw [← hes0]; exact hoq)
      have HES : Hid (keepL v cut = es0) := Lib.hid (by rw [HE0.out, hes0])
      have hk0 : hi ≤ 4096 := by omega
      clear hbq hvq hoq hes0
      have HST : Hid (∃ (k : Nat) (A2 : Option Addr) (c2 : Nat), Value.int .i64 0 = .int .i64 (k : Int) ∧ k ≤ m ∧ ViewAt wq bo v (.slice A2 (hi + k) c2) ∧ OwnsQE W.heap.size (.slice A2 (hi + k) c2) (hi + k) (es0 ++ add.take k) wq ∧ Below W.heap.size W wq) := Lib.hid ⟨0, A6, hi, rfl, Nat.zero_le _, HVQ.out, by rw [List.take_zero, List.append_nil]; exact HOQ.out, HBQ.out⟩
      skip
      obtain ⟨f0, f1, f2, f3⟩ := (HK.out wq HBQ.out).2.1.cells
      go_upto_region 11 with fail
      clear f0 f1 f2 f3
      go_loopw [65] (fun s65 wr => ∃ (k : Nat) (A2 : Option Addr) (c2 : Nat), s65 = .int .i64 (k : Int) ∧ k ≤ m ∧ ViewAt wr bo v (.slice A2 (hi + k) c2) ∧ OwnsQE W.heap.size (.slice A2 (hi + k) c2) (hi + k) (es0 ++ add.take k) wr ∧ Below W.heap.size W wr) (fun s65 _ => m - (intOf s65).toNat)
      case atStart => exact HST.out
      case round =>
        obtain ⟨k, A3, c3, rfl, hk, hv3, ⟨cells, o1, o2⟩, hb3⟩ := hrel
        have HV3 := Lib.hid hv3
        have O1 := Lib.hid o1
        have O2 := Lib.hid o2
        have HB3 := Lib.hid hb3
        clear HST hv3 o1 o2 hb3
        obtain ⟨kk, hkk⟩ : ∃ kk, hi + k = kk := ⟨_, rfl⟩
        rw [hkk] at HV3 O1
        have HKK := Lib.hid hkk
        have hkk8 : kk ≤ 8200 := by omega
        clear hkk
        by_cases hlt : k < m
        · have hki : (k : Int) < (m : Int) := by omega
          have hkl : k < add.length := by rw [HM.out]; exact hlt
          obtain ⟨x, hx⟩ : ∃ x, add[k] = x := ⟨_, rfl⟩
          have hget : add[k]? = some x := by rw [List.getElem?_eq_getElem hkl, hx]
          have HTK : Hid (add.take (k + 1) = add.take k ++ [x]) := Lib.hid (by rw [List.take_succ_eq_append_getElem hkl, hx])
          obtain ⟨ad, A1, c1, rfl, hcs, hc1, hsd⟩ := (HL.out.below (below_step HB.out HB.out.size HB3.out)).at hget
          have hsm := HSL.out x (by rw [← hx]; exact List.getElem_mem hkl)
          obtain ⟨p, hp⟩ : ∃ p, x.data.length = p := ⟨_, rfl⟩
          rw [hp] at hcs hc1 hsm
          have HP := Lib.hid hp
          obtain ⟨WB, hWB, hbW, hzW, hcW⟩ := box_ent x (.slice A1 p c1) wr
          obtain ⟨bx, hbx⟩ : ∃ bx, wr.heap.size = bx := ⟨_, rfl⟩
          rw [hbx] at hcW
          have HCS := Lib.hid hcs
          have HWB := Lib.hid hWB
          have HBX := Lib.hid hbx
          have HBW := Lib.hid hbW
          have HOC := Lib.hid (fun W' (hb' : Below WB.heap.size WB W') => own_any x A1 p c1 W' hp hc1 hsm ((hsd.below hbW).below hb'))
          rw [Ent.val_eq] at HOC
          unfold Ent.cells at HOC
          have HB0 : Hid (WB.heap[bx]? = some (.cells #[.int .i64 x.term, .int .i64 x.index, .int .i64 x.kind, .slice A1 p c1] 54 (0, 0))) := Lib.hid (by rw [← hWB, ← hbx]; exact box_ent_at x (.slice A1 p c1) wr)
          have HNE : Hid (bx ≠ bo) := Lib.hid (by have := (Array.getElem?_eq_some_iff.1 HV3.out).1; omega)
          have HKW : Hid (∀ W', Below WB.heap.size WB W' → W'.cell? ⟨bx, 0, none⟩ = some (.int .i64 x.term) ∧ W'.cell? ⟨bx, 1, none⟩ = some (.int .i64 x.index) ∧ W'.cell? ⟨bx, 2, none⟩ = some (.int .i64 x.kind) ∧ W'.cell? ⟨bx, 3, none⟩ = some (.slice A1 p c1)) := Lib.hid (fun W' hb' => ⟨(hb'.cell (World.block_lt_of_cell? _ _ (hcW 0 _ rfl))).trans (hcW 0 _ rfl), (hb'.cell (World.block_lt_of_cell? _ _ (hcW 1 _ rfl))).trans (hcW 1 _ rfl), (hb'.cell (World.block_lt_of_cell? _ _ (hcW 2 _ rfl))).trans (hcW 2 _ rfl), (hb'.cell (World.block_lt_of_cell? _ _ (hcW 3 _ rfl))).trans (hcW 3 _ rfl)⟩)
          have HVW : Hid (∀ W', Below WB.heap.size WB W' → ViewAt W' bo v (.slice A3 kk c3)) := Lib.hid (fun W' hb' => (HV3.out.below hbW).below hb')
          clear hcs hWB hbW hzW hcW hsd hx hget hkl hp hbx
          obtain ⟨c0', c1', c2'⟩ := HV3.out.cells
          go_upto_region 13 with (first
            | (refine wpList_load_far rfl 54 _ rfl (ad.add (k * 4)) rfl (x.cells (.slice A1 p c1)) _ HCS.out Try.underlying54 rfl (by kernel_rfl) ?_)
            | (refine wpList_store_mid rfl 54 _ _ rfl wr.heap.size 0 (x.cells (.slice A1 p c1)).toArray rfl rfl (there_one4 wr) (by kernel_rfl) (ent_ones x A1 p c1) ?_)
            | fail)
          have hWW := HWB.out
          unfold zeros4 at hWW
          rw [hWW, HBX.out]
          clear hWW c0' c1' c2'
          have bd : Below WB.heap.size WB WB.drew := (Below.refl _ _).drew
          have m1 := (HVW.out WB (Below.refl _ _)).cells.2.2
          have m2 := (HVW.out WB.drew bd).cells.2.2
          refine wp_region_T 7 (fun W' => W'.cell? ⟨bx, 0, none⟩ = some (.int .i64 x.term) ∧ W'.cell? ⟨bx, 1, none⟩ = some (.int .i64 x.index) ∧ W'.cell? ⟨bx, 2, none⟩ = some (.int .i64 x.kind) ∧ W'.cell? ⟨bx, 3, none⟩ = some (.slice A1 p c1) ∧ W'.cell? ⟨bo, 2, none⟩ = some (.slice A3 kk c3)) (by kernel_rfl) ?_
          have hS0 := And.intro (HKW.out WB.drew bd).1 (And.intro (HKW.out WB.drew bd).2.1 (And.intro (HKW.out WB.drew bd).2.2.1 (And.intro (HKW.out WB.drew bd).2.2.2 m2)))
          refine wpAnyT_take (i := 0) (v := ?vb0) rfl (by kernel_rfl) (by kernel_rfl) (by kernel_rfl) (by kernel_rfl) (fun _ _ _ h => h) rfl (fun w' hS => ?yb0) hS0 ?zb0
          case yb0 => (obtain ⟨s0, s1, s2, s3, s4⟩ := hS; go_simp; with_reducible rfl)
          try simp only [Act.put, List.getElem_toArray, List.getElem_cons_zero, List.getElem_cons_succ, List.setIfInBounds_toArray, List.set_cons_zero, List.set_cons_succ]
          refine wpAnyT_take (i := 1) (v := ?vb1) rfl (by kernel_rfl) (by kernel_rfl) (by kernel_rfl) (by kernel_rfl) (fun _ _ _ h => h) rfl (fun w' hS => ?yb1) hS0 ?zb1
          case yb1 => (obtain ⟨s0, s1, s2, s3, s4⟩ := hS; go_simp; with_reducible rfl)
          try simp only [Act.put, List.getElem_toArray, List.getElem_cons_zero, List.getElem_cons_succ, List.setIfInBounds_toArray, List.set_cons_zero, List.set_cons_succ]
          refine wpAnyT_take (i := 2) (v := ?vb2) rfl (by kernel_rfl) (by kernel_rfl) (by kernel_rfl) (by kernel_rfl) (fun _ _ _ h => h) rfl (fun w' hS => ?yb2) hS0 ?zb2
          case yb2 => (obtain ⟨s0, s1, s2, s3, s4⟩ := hS; go_simp; with_reducible rfl)
          try simp only [Act.put, List.getElem_toArray, List.getElem_cons_zero, List.getElem_cons_succ, List.setIfInBounds_toArray, List.set_cons_zero, List.set_cons_succ]
          refine wpAnyT_one (i := 3) (by kernel_rfl) rfl (fun K' hK => ?_)
          have HK9 := Lib.hid hK
          clear hK
          go_simp
          go_at_call 45
          refine (HOC.out _ bd).mono ?_
          rintro e w6 ⟨A6, c6, rfl, hown6, hb6'⟩
          rw [HP.out]
          rw [HP.out] at hown6
          have hb6 := below_step bd bd.size hb6'
          have HOWN6 := Lib.hid hown6
          have hS6 := And.intro (HKW.out w6 hb6).1 (And.intro (HKW.out w6 hb6).2.1 (And.intro (HKW.out w6 hb6).2.2.1 (And.intro (HKW.out w6 hb6).2.2.2 (HVW.out w6 hb6).cells.2.2)))
          unfold Ent.val
          clear hown6 hb6'
          refine HK9.out _ _ (.inr hS6) ?_
          clear HK9
          try simp only [Act.put, List.getElem_toArray, List.getElem_cons_zero, List.getElem_cons_succ, List.setIfInBounds_toArray, List.set_cons_zero, List.set_cons_succ]
          refine wpAnyT_one (i := 4) (by kernel_rfl) rfl (fun K' hK => ?_)
          have HK9 := Lib.hid hK
          clear hK
          go_simp
          have hba := hb6.alloc hb6.size (.cells #[.int .i64 x.term, .int .i64 x.index, .int .i64 x.kind, .slice A6 p c6] 54)
          have hSa := And.intro (HKW.out _ hba).1 (And.intro (HKW.out _ hba).2.1 (And.intro (HKW.out _ hba).2.2.1 (And.intro (HKW.out _ hba).2.2.2 (HVW.out _ hba).cells.2.2)))
          refine HK9.out _ _ (.inr hSa) ?_
          clear HK9
          try simp only [Act.put, List.getElem_toArray, List.getElem_cons_zero, List.getElem_cons_succ, List.setIfInBounds_toArray, List.set_cons_zero, List.set_cons_succ]
          refine wpAnyT_one (i := 5) (by kernel_rfl) rfl (fun K' hK => ?_)
          have HK9 := Lib.hid hK
          clear hK
          refine step_append_q rfl (.tmp 70) (.tmp 73) 22 (by rfl) W.heap.size 54 (.agg zeros4) 4 48 Try.underlying22 infoE rfl (by decide) (.slice A3 kk c3) kk cells (by rfl) (by exact (((O1.out.keep HBW.out).keep hb6).keep ((Below.refl _ _).alloc (Nat.le_refl _) _))) ⟨w6.heap.size, 0, none⟩ 1 1 (x.cells (.slice A6 p c6)) (by rfl) (by rfl) (by exact sees_new w6 #[.int .i64 x.term, .int .i64 x.index, .int .i64 x.kind, .slice A6 p c6] 54) (cells_ones x A6 p c6) (by decide) (by simp only [maxLen]; omega) (by omega) (by have := hb6.size; have := HBW.out.size; have := HB3.out.size; rw [World.size_alloc]; omega) ?_
          intro A7 c7 w7 hown7 hg7 hat7
          have hv7 := do_view HVW.out hba O1.out HBW.out hg7 HV3.out
          have hs7 := do_box HBX.out HBW.out hba hg7 O1.out HB0.out
          have hS7 := And.intro hs7.1 (And.intro hs7.2.1 (And.intro hs7.2.2.1 (And.intro hs7.2.2.2 hv7.cells.2.2)))
          have m7 := hv7.cells.2.2
          have fz7 := frozen_of_cells hv7
          have HV7 := Lib.hid hv7
          have HOWN7 := Lib.hid hown7
          have HG7 := Lib.hid hg7
          clear hown7 hg7 hat7 hv7 hs7
          refine HK9.out _ _ (.inr hS7) ?_
          clear HK9
          try simp only [Act.put, List.getElem_toArray, List.getElem_cons_zero, List.getElem_cons_succ, List.setIfInBounds_toArray, List.set_cons_zero, List.set_cons_succ]
          refine wpAnyT_one (i := 6) (by kernel_rfl) rfl (fun K' hK => ?_)
          have HK9 := Lib.hid hK
          clear hK
          go_simp
          refine HK9.out _ _ (.inr hS7) ?_
          clear HK9
          try simp only [Act.put, List.getElem_toArray, List.getElem_cons_zero, List.getElem_cons_succ, List.setIfInBounds_toArray, List.set_cons_zero, List.set_cons_succ]
          refine wpAnyT_one (i := 7) (by kernel_rfl) rfl (fun K' hK => ?_)
          have HK9 := Lib.hid hK
          clear hK
          go_simp
          refine HK9.out _ _ (.inl rfl) ?_
          clear HK9
          try simp only [Act.put, List.getElem_toArray, List.getElem_cons_zero, List.getElem_cons_succ, List.setIfInBounds_toArray, List.set_cons_zero, List.set_cons_succ]
          refine wpAnyT_done (by kernel_rfl) ?_ _
          all_goals
            have hb6z := hb6.size
            have hbwz := HBW.out.size
            have hb3z := HB3.out.size
            have hal : Below w6.heap.size w6 (w6.alloc (.cells #[.int .i64 x.term, .int .i64 x.index, .int .i64 x.kind, .slice A6 p c6] 54)) := (Below.refl _ _).alloc (Nat.le_refl _) _
            have hwa : Below wr.heap.size wr (w6.alloc (.cells #[.int .i64 x.term, .int .i64 x.index, .int .i64 x.kind, .slice A6 p c6] 54)) := below_step (below_step HBW.out hbwz hb6) (Nat.le_trans hbwz hb6z) hal
            have hnx := OwnsQE.snoc (x := x) (O1.out.keep hwa) (O2.out.imp fun j y cs _ hl => hl.below hwa) ⟨A6, c6, by rw [HP.out], by rw [HP.out]; exact own_lower (own_keep HOWN6.out hal) (show W.heap.size ≤ WB.heap.size by omega)⟩ HOWN7.out HG7.out
            have hnx2 := hnx.far ⟨bo, 2, none⟩ (.slice A7 (kk + 1) c7) rfl HV7.out (by decide) (by decide)
            have hv8 := view_set2 (d' := .slice A7 (kk + 1) c7) HV7.out
            have hbz := ((below_step HB3.out hb3z hwa).grown HG7.out (by have := hwa.size; omega) (fun b e => q_block_ge O1.out e)).setCell (p := ⟨bo, 2, none⟩) HBO0.out (.slice A7 (kk + 1) c7)
            have HNX := Lib.hid hnx2
            have HV8 := Lib.hid hv8
            have HBZ := Lib.hid hbz
            have HK1 : Hid (hi + (k + 1) = kk + 1) := Lib.hid (by have := HKK.out; omega)
            clear hb6z hbwz hb3z hal hwa hnx hnx2 hv8 hbz m1 m2 m7 fz7 bd
            try clear hb6
            try clear hba
            go_wp2_with fail
            go_roundw
            case rel => exact ⟨k + 1, A7, c7, by go_num, hlt, by rw [HK1.out]; exact HV8.out, by rw [HK1.out, HTK.out, ← List.append_assoc]; exact HNX.out, HBZ.out⟩
            case measure => simp [intOf] <;> omega
        · obtain rfl : k = m := by omega
          have hki : ¬ (k : Int) < (k : Int) := by omega
          have hoe : OwnsQE W.heap.size (.slice A3 kk c3) kk (es0 ++ add) wr := ⟨cells, O1.out, by have h9 := O2.out; rwa [List.take_of_length_le (by rw [HM.out]; exact Nat.le_refl _)] at h9⟩
          have hsee := hoe.see
          have hsm : SmallE (es0 ++ add) := by
            intro y hy
            rcases List.mem_append.1 hy with h9 | h9
            · rw [← HES.out] at h9
              unfold keepL at h9
              split at h9
              · exact HS.out y h9
              · exact HS.out y (List.mem_of_mem_take h9)
            · exact HSL.out y h9
          have HRO := Lib.hid (rightv_any ⟨v.base, v.term, es0 ++ add⟩ A3 kk c3 wr hsee.2.1 (by omega) hsee.1 hsm)
          rw [← HES.out, HOUT.out] at HRO
          rw [HES.out] at HRO
          unfold Vw.val at HRO
          dsimp only at HRO
          have HOE := Lib.hid hoe
          obtain ⟨i0, i1, i2⟩ := HV3.out.cells
          clear hoe hsee hsm
          go_upto_region 17 with (first
            | (go_at_call 24; refine HRO.out.mono ?_; rintro e w9 ⟨rfl, hb9⟩; have HB9 := Lib.hid hb9; have hv9 := HV3.out.below hb9; obtain ⟨j0, j1, j2⟩ := hv9.cells; have hr9 := (HK.out w9 (below_step HB3.out HB3.out.size hb9)).2.2; obtain ⟨r0, r1, r2⟩ := hr9.cells; have fr := frozen_of_cells hr9; have HR9 := Lib.hid hr9; clear hb9 hv9 hr9)
            | fail)
          clear i0 i1 i2
          go_wp2_with fail
          have hrowZ := view_set3' (v := v) (d := .slice A3 kk c3) HR9.out
          unfold ViewAt at hrowZ
          refine bodyPost_ret (v := .agg #[.int .i64 v.base, .int .i64 v.term, .slice A3 kk c3]) (results_cell_row rfl _ _ _ _ _ _ _ rfl hrowZ Try.underlying26 rfl (by kernel_rfl)) rfl ?_
          have hgw := HGB.out
          have hzw := HZ.out
          refine ⟨A3, kk, c3, rfl, ?_, ?_⟩
          · rw [HES.out]
            exact (((HOE.out.below HB9.out).far3 HR9.out _ _ _)).lower (by omega)
          · exact below_set (below_set (below_set (below_step HB.out HB.out.size (below_step HB3.out HB3.out.size HB9.out)) _ (by show _ ≤ gb + 2; omega) _) _ (by show _ ≤ gb + 2; omega) _) _ (by show _ ≤ gb + 2; omega) _

end Go.Proofs.Ytlcnpfiiijehmaa
