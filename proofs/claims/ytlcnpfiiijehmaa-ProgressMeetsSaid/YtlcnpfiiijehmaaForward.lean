/-
  ProgressForward: the walk.
-/
import Derived.Test.YtlcnpfiiijehmaaHeard
import Derived.Deep.LoopGhost
import Derived.Deep.RegionHeld3
import Derived.BigQuiet
set_option linter.unusedVariables false
set_option linter.unusedSimpArgs false
namespace Go.Proofs.Ytlcnpfiiijehmaa
open Go.RowKit

def wordSee (_ : World) (x : Bool × Int) (cs : List Value) : Prop := cs = [.bool x.1, .int .i64 x.2] ∧ IntOk x.2
def SeenW (w : World) (A : Option Addr) (ls : List (Bool × Int)) : Prop := ∃ cells, Sees w A cells ∧ Recs wordSee 2 w ls cells
theorem SeenW.below {w w' : World} {A : Option Addr} {ls : List (Bool × Int)} (h : SeenW w A ls) (hb : Below w.heap.size w w') : SeenW w' A ls := by
  obtain ⟨cells, h1, h2⟩ := h
  exact ⟨cells, h1.below hb, h2.imp fun _ _ _ _ h => h⟩
theorem SeenW.at {w : World} {A : Option Addr} {ls : List (Bool × Int)} (h : SeenW w A ls) {k : Nat} (hk : k < ls.length) : ∃ ad, A = some ad ∧ (ad.add (k * 2)).block < w.heap.size ∧ w.cell? (ad.add (k * 2)) = some (.bool ls[k].1) ∧ w.cell? ⟨(ad.add (k * 2)).block, (ad.add (k * 2)).off + 1, none⟩ = some (.int .i64 ls[k].2) ∧ IntOk ls[k].2 := by
  obtain ⟨cells, hs, hr⟩ := h
  obtain ⟨cs, hcl, ⟨rfl, h1⟩, hcs⟩ := hr.get (List.getElem?_eq_getElem hk)
  obtain ⟨ad, rfl, h0⟩ := hs (k * 2) _ (hcs 0 _ rfl)
  refine ⟨ad, rfl, World.block_lt_of_cell? w _ h0, h0, ?_, h1⟩
  obtain ⟨ad', e, hc⟩ := hs (k * 2 + 1) _ (hcs 1 _ rfl)
  cases e
  rw [← add_pos _ 1 (by decide), add_at]
  exact hc
theorem heard_law {nx mt at_ last : Int} {yes : Bool} (h1 : 0 ≤ mt) (h2 : mt < nx) (h3 : nx ≤ last + 1) (h4 : mt ≤ last) :
    mt ≤ (heardP nx mt yes at_ last).2 ∧ (heardP nx mt yes at_ last).2 < (heardP nx mt yes at_ last).1 ∧ (heardP nx mt yes at_ last).1 ≤ last + 1 ∧ (heardP nx mt yes at_ last).2 ≤ last ∧ (yes = true → 0 ≤ at_ → at_ ≤ last → at_ ≤ (heardP nx mt yes at_ last).2) := by
  unfold heardP
  split
  · refine ⟨by omega, by omega, by omega, by omega, fun _ _ _ => by dsimp only; omega⟩
  · split
    · rename_i _ h
      subst h
      refine ⟨by omega, ?_, ?_, by omega, fun h => by cases h⟩ <;> dsimp only <;> omega
    · split
      · refine ⟨?_, ?_, ?_, ?_, fun _ _ _ => ?_⟩ <;> dsimp only <;> omega
      · refine ⟨by omega, by omega, by omega, by omega, fun _ _ _ => by dsimp only; omega⟩
def PeerAt (W : World) (g : Nat) (a b : Int) : Prop := W.heap[g]? = some (.cells #[.int .i64 a, .int .i64 b] 38 (0, 0))
theorem begin_at (last : Int) (w : World) (h1 : 0 ≤ last) (h2 : last ≤ 1099511627776) : Calls Try.prog 15 #[.int .i64 last] w fun e w' => e = .returned (.agg #[.int .i64 (last + 1), .int .i64 0]) ∧ Below w.heap.size w w' := by
  obtain ⟨n, rfl⟩ := Int.eq_ofNat_of_zero_le h1
  exact begin_any n w (by omega)
theorem blockB {w W : World} {b : Nat} {o : Obj} (h : w.heap[b]? = some o) (hb : Below w.heap.size w W) : W.heap[b]? = some o := (hb.block b (Array.getElem?_eq_some_iff.1 h).1).trans h
theorem PeerAt.cells {W : World} {g : Nat} {a b : Int} (h : PeerAt W g a b) : W.cell? ⟨g, 0, none⟩ = some (.int .i64 a) ∧ W.cell? ⟨g, 1, none⟩ = some (.int .i64 b) :=
  ⟨by rw [cell_of_row _ _ 0 _ _ _ h]; rfl, by rw [cell_of_row _ _ 1 _ _ _ h]; rfl⟩
theorem PeerAt.set {W : World} {g : Nat} {a b c d : Int} (h : PeerAt W g a b) : PeerAt ((W.setCell ⟨g, 0, none⟩ (.int .i64 c)).setCell ⟨g, 1, none⟩ (.int .i64 d)) g c d := by
  unfold PeerAt at *
  simp [World.setCell, Array.getElem?_modify, h]
theorem PeerAt.far {W : World} {g : Nat} {a b : Int} (h : PeerAt W g a b) (q : Addr) (hq : q.block ≠ g) (v : Value) : PeerAt (W.setCell q v) g a b := by
  unfold PeerAt at *
  simp [World.setCell, Array.getElem?_modify, h]
  intro h9
  exact absurd h9 hq
theorem peer_there {W : World} {g : Nat} {a b : Int} (h : PeerAt W g a b) : W.there g 0 2 := fun i hi => ⟨by
  unfold PeerAt at h
  rcases (show i = 0 ∨ i = 1 by omega) with rfl | rfl
  · rw [(PeerAt.cells h).1]; rfl
  · rw [(PeerAt.cells h).2]; rfl, frozen_of_cells h _⟩
set_option maxRecDepth 16384 in
set_option maxHeartbeats 8000000 in
theorem forward_any (l0 : Int) (A : Option Addr) (ls : List (Bool × Int)) (n c : Nat) (w : World) (hl : IntOk l0) (hA : SeenW w A ls) (hn : ls.length = n) (hn2 : n * 16 ≤ 140737488351232) :
    Calls Try.prog 5 #[.int .i64 l0, .slice A n c] w (RetBool w true) := by
  have a1 := Int.tmod_lt_of_pos l0 (show (0 : Int) < 1000 by decide)
  have a2 : -1000 < l0.tmod 1000 := Int.lt_tmod_of_pos l0 (show (0 : Int) < 1000 by decide)
  have e1 : IntKind.i64.wrap (l0.tmod 1000 + 1000) = l0.tmod 1000 + 1000 := IntWalk.i64_in _ (by omega)
  obtain ⟨L, hL⟩ : ∃ L, (l0.tmod 1000 + 1000).tmod 1000 = L := ⟨_, rfl⟩
  have hL0 : 0 ≤ L := by rw [← hL, Int.tmod_eq_emod_of_nonneg (by omega)]; omega
  have hL1 : L < 1000 := by rw [← hL, Int.tmod_eq_emod_of_nonneg (by omega)]; omega
  have HA := Lib.hid hA
  have HN := Lib.hid hn
  clear hA hn
  go_enter Try.func5, Try.ntmps5
  go_upto_region 3 with (first
    | (go_at_call 15; refine (begin_at L _ (by assumption) (by omega)).mono ?_; rintro e w1 ⟨rfl, hb1⟩; have HB1 := Lib.hid hb1; clear hb1)
    | (go_at_call 15; rw [hL]; refine (begin_at L _ (by assumption) (by omega)).mono ?_; rintro e w1 ⟨rfl, hb1⟩; have HB1 := Lib.hid hb1; clear hb1)
    | fail)
  obtain ⟨gp, hgp⟩ : ∃ gp, w1.heap.size = gp := ⟨_, rfl⟩
  have hnew : PeerAt (w1.alloc (.cells #[.int .i64 (L + 1), .int .i64 0] 38)) gp (L + 1) 0 := by rw [← hgp]; exact heap_alloc_new _ _
  have hbn : Below w.heap.size w (w1.alloc (.cells #[.int .i64 (L + 1), .int .i64 0] 38)) := below_step HB1.out HB1.out.size ((Below.refl _ _).alloc (Nat.le_refl _) _)
  have HGP := Lib.hid (show w.heap.size ≤ gp by have := HB1.out.size; omega)
  try rw [hgp]
  have REL0 : Hid (∃ (k : Nat) (a b : Int), Value.int .i64 0 = .int .i64 (k : Int) ∧ k ≤ n ∧ PeerAt (w1.alloc (.cells #[.int .i64 (L + 1), .int .i64 0] 38)) gp a b ∧ Below w.heap.size w (w1.alloc (.cells #[.int .i64 (L + 1), .int .i64 0] 38)) ∧ 0 ≤ b ∧ b < a ∧ a ≤ L + 1 ∧ b ≤ L) :=
    Lib.hid ⟨0, L + 1, 0, rfl, Nat.zero_le _, hnew, hbn, by omega, by omega, by omega, by omega⟩
  clear hgp hnew hbn
  go_wp2_with fail
  go_loopw [6] (fun s6 wr => ∃ (k : Nat) (a b : Int), s6 = .int .i64 (k : Int) ∧ k ≤ n ∧ PeerAt wr gp a b ∧ Below w.heap.size w wr ∧ 0 ≤ b ∧ b < a ∧ a ≤ L + 1 ∧ b ≤ L) (fun s6 _ => n - (intOf s6).toNat)
  case atStart => exact REL0.out
  case round =>
    obtain ⟨k, a, b, rfl, hk, hpa, hbw, b1, b2, b3, b4⟩ := hrel
    have HPA := Lib.hid hpa
    have HBW := Lib.hid hbw
    clear REL0 hpa hbw
    by_cases hlt : k < n
    · have hki : (k : Int) < (n : Int) := by omega
      obtain ⟨ad, rfl, q0, q1, q2, q3⟩ := (HA.out.below HBW.out).at (k := k) (by rw [HN.out]; exact hlt)
      obtain ⟨x, hx⟩ : ∃ x, ls[k]'(by rw [HN.out]; exact hlt) = x := ⟨_, rfl⟩
      rw [hx] at q1 q2 q3
      obtain ⟨yes, at_⟩ := x
      simp only at q1 q2 q3
      have HQ := Lib.hid q0
      clear hx q0
      go_upto_region 6 with (fail)
      have HC := Lib.hid (fun W' => heard_any a b yes at_ L W' b1 (by omega) (by omega) (by omega) hL0 (by omega) q3)
      have HLAW := Lib.hid (heard_law (yes := yes) (at_ := at_) b1 b2 b3 b4)
      obtain ⟨⟨na, nb⟩, hnab⟩ : ∃ z, heardP a b yes at_ L = z := ⟨_, rfl⟩
      rw [hnab] at HC HLAW
      have HK : Hid (∀ W', Below wr.heap.size wr W' → W'.cell? (ad.add (k * 2)) = some (.bool yes) ∧ W'.cell? ⟨(ad.add (k * 2)).block, (ad.add (k * 2)).off + 1, none⟩ = some (.int .i64 at_) ∧ W'.cell? ⟨gp, 0, none⟩ = some (.int .i64 a) ∧ W'.cell? ⟨gp, 1, none⟩ = some (.int .i64 b)) := Lib.hid (fun W' hb' => ⟨(hb'.cell HQ.out).trans q1, (hb'.cell (p := ⟨_, _, none⟩) HQ.out).trans q2, (hb'.cell (World.block_lt_of_cell? _ _ HPA.out.cells.1)).trans HPA.out.cells.1, (hb'.cell (World.block_lt_of_cell? _ _ HPA.out.cells.2)).trans HPA.out.cells.2⟩)
      clear hnab
      have b0 : Below wr.heap.size wr wr.drew := (Below.refl _ _).drew
      have b9 : Below wr.heap.size wr (wr.alloc (.cells #[.int .i64 0, .int .i64 0] 38)).drew := ((Below.refl _ _).alloc (Nat.le_refl _) _).drew
      have HROW : Hid (PeerAt (wr.alloc (.cells #[.int .i64 0, .int .i64 0] 38)).drew wr.heap.size 0 0) := Lib.hid (heap_alloc_new wr _)
      go_region_held3 (fun W' => W'.cell? (ad.add (k * 2)) = some (.bool yes) ∧ W'.cell? ⟨(ad.add (k * 2)).block, (ad.add (k * 2)).off + 1, none⟩ = some (.int .i64 at_) ∧ W'.cell? ⟨gp, 0, none⟩ = some (.int .i64 a) ∧ W'.cell? ⟨gp, 1, none⟩ = some (.int .i64 b))
        (first
          | (refine HK.out _ ?_; assumption)
          | (exact HK.out _ (hb3'.alloc hb3'.size _))
          | (exact HK.out _ ((hb3'.setCell (Nat.le_refl _) _).setCell (Nat.le_refl _) _))
          | (exact HK.out _ (((hb3'.alloc hb3'.size _).setCell hb3'.size _).setCell hb3'.size _))
          | fail)
        (first
          | (go_at_call 16; refine (HC.out _).mono ?_; rintro e w3 ⟨rfl, hb3⟩; have hb3' := below_step (show Below wr.heap.size wr _ by assumption) (Below.size (by assumption)) hb3; try (have hrow3 : PeerAt w3 wr.heap.size 0 0 := blockB HROW.out hb3; have d0 := hrow3.cells.1; have d1 := hrow3.cells.2; have df := frozen_of_cells hrow3))
          | fail)
      rotate_left
      · obtain ⟨gq, hgq⟩ : ∃ gq, wr.heap.size = gq := ⟨_, rfl⟩
        obtain ⟨W4, hW4⟩ : ∃ W4, (w3.setCell ⟨wr.heap.size, 0, none⟩ (.int .i64 na)).setCell ⟨wr.heap.size, 1, none⟩ (.int .i64 nb) = W4 := ⟨_, rfl⟩
        have hq4 : PeerAt W4 gq na nb := by rw [← hW4, ← hgq]; exact hrow3.set
        have hb4 : Below wr.heap.size wr W4 := by rw [← hW4]; exact (hb3'.setCell (Nat.le_refl _) _).setCell (Nat.le_refl _) _
        have hne : gp ≠ gq := by
          have h1 : gp < wr.heap.size := (Array.getElem?_eq_some_iff.1 HPA.out).1
          have h2 := hb3'.size
          omega
        rw [hW4, hgq]
        clear hgq hW4 b0 b9 HROW HC hb3 hb3' q1 q2
        try clear hrow3 d0 d1 df
        have HQ4 := Lib.hid hq4
        have HB4 := Lib.hid hb4
        have HNE := Lib.hid hne
        obtain ⟨k1, k2, k3, k4⟩ := HK.out W4 hb4
        obtain ⟨k5, k6⟩ := hq4.cells
        obtain ⟨l1, l2, l3, l4, l5⟩ := HLAW.out
        have HL5 := Lib.hid l5
        clear hq4 hb4 hne l5
        have n1 : ¬ nb < b := by omega
        have n2 : ¬ na ≤ nb := by omega
        have n3 : ¬ L + 1 < na := by omega
        have n4 : ¬ L < nb := by omega
        go_upto_region 9 with (fail)
        have hp4 : PeerAt W4 gp a b := blockB HPA.out HB4.out
        have kf := frozen_of_cells hp4
        have HP4 := Lib.hid hp4
        clear hp4
        cases yes with
        | false =>
          go_quiet (fail)
          go_wp2_with fail
          go_roundw
          case rel => exact ⟨k + 1, na, nb, by go_num, hlt, HP4.out.set, ((below_draws (below_step HBW.out HBW.out.size HB4.out) _).setCell (by show _ ≤ gp; exact HGP.out) _).setCell (by show _ ≤ gp; exact HGP.out) _, by omega, l2, l3, l4⟩
          case measure => simp [intOf] <;> omega
        | true =>
          by_cases g1 : 0 ≤ at_
          · by_cases g2 : at_ ≤ L
            · have n5 : ¬ nb < at_ := by have := HL5.out rfl g1 g2; omega
              go_quiet (fail)
              go_wp2_with fail
              go_roundw
              case rel => exact ⟨k + 1, na, nb, by go_num, hlt, HP4.out.set, ((below_draws (below_step HBW.out HBW.out.size HB4.out) _).setCell (by show _ ≤ gp; exact HGP.out) _).setCell (by show _ ≤ gp; exact HGP.out) _, by omega, l2, l3, l4⟩
              case measure => simp [intOf] <;> omega
            · have g2' : decide (at_ ≤ L) = false := decide_eq_false g2
              go_quiet (fail)
              go_wp2_with fail
              go_roundw
              case rel => exact ⟨k + 1, na, nb, by go_num, hlt, HP4.out.set, ((below_draws (below_step HBW.out HBW.out.size HB4.out) _).setCell (by show _ ≤ gp; exact HGP.out) _).setCell (by show _ ≤ gp; exact HGP.out) _, by omega, l2, l3, l4⟩
              case measure => simp [intOf] <;> omega
          · have g1' : decide (0 ≤ at_) = false := decide_eq_false g1
            go_quiet (fail)
            go_wp2_with fail
            go_roundw
            case rel => exact ⟨k + 1, na, nb, by go_num, hlt, HP4.out.set, ((below_draws (below_step HBW.out HBW.out.size HB4.out) _).setCell (by show _ ≤ gp; exact HGP.out) _).setCell (by show _ ≤ gp; exact HGP.out) _, by omega, l2, l3, l4⟩
            case measure => simp [intOf] <;> omega
      · obtain ⟨gq, hgq⟩ : ∃ gq, w3.heap.size = gq := ⟨_, rfl⟩
        obtain ⟨W4, hW4⟩ : ∃ W4, w3.alloc (.cells #[.int .i64 na, .int .i64 nb] 38) = W4 := ⟨_, rfl⟩
        have hq4 : PeerAt W4 gq na nb := by rw [← hW4, ← hgq]; exact heap_alloc_new _ _
        have hb4 : Below wr.heap.size wr W4 := by rw [← hW4]; exact hb3'.alloc hb3'.size _
        have hne : gp ≠ gq := by
          have h1 : gp < wr.heap.size := (Array.getElem?_eq_some_iff.1 HPA.out).1
          have h2 := hb3'.size
          omega
        rw [hW4, hgq]
        clear hgq hW4 b0 b9 HROW HC hb3 hb3' q1 q2
        try clear hrow3 d0 d1 df
        have HQ4 := Lib.hid hq4
        have HB4 := Lib.hid hb4
        have HNE := Lib.hid hne
        obtain ⟨k1, k2, k3, k4⟩ := HK.out W4 hb4
        obtain ⟨k5, k6⟩ := hq4.cells
        obtain ⟨l1, l2, l3, l4, l5⟩ := HLAW.out
        have HL5 := Lib.hid l5
        clear hq4 hb4 hne l5
        have n1 : ¬ nb < b := by omega
        have n2 : ¬ na ≤ nb := by omega
        have n3 : ¬ L + 1 < na := by omega
        have n4 : ¬ L < nb := by omega
        go_upto_region 9 with (fail)
        have hp4 : PeerAt W4 gp a b := blockB HPA.out HB4.out
        have kf := frozen_of_cells hp4
        have HP4 := Lib.hid hp4
        clear hp4
        cases yes with
        | false =>
          go_quiet (fail)
          go_wp2_with fail
          go_roundw
          case rel => exact ⟨k + 1, na, nb, by go_num, hlt, HP4.out.set, ((below_draws (below_step HBW.out HBW.out.size HB4.out) _).setCell (by show _ ≤ gp; exact HGP.out) _).setCell (by show _ ≤ gp; exact HGP.out) _, by omega, l2, l3, l4⟩
          case measure => simp [intOf] <;> omega
        | true =>
          by_cases g1 : 0 ≤ at_
          · by_cases g2 : at_ ≤ L
            · have n5 : ¬ nb < at_ := by have := HL5.out rfl g1 g2; omega
              go_quiet (fail)
              go_wp2_with fail
              go_roundw
              case rel => exact ⟨k + 1, na, nb, by go_num, hlt, HP4.out.set, ((below_draws (below_step HBW.out HBW.out.size HB4.out) _).setCell (by show _ ≤ gp; exact HGP.out) _).setCell (by show _ ≤ gp; exact HGP.out) _, by omega, l2, l3, l4⟩
              case measure => simp [intOf] <;> omega
            · have g2' : decide (at_ ≤ L) = false := decide_eq_false g2
              go_quiet (fail)
              go_wp2_with fail
              go_roundw
              case rel => exact ⟨k + 1, na, nb, by go_num, hlt, HP4.out.set, ((below_draws (below_step HBW.out HBW.out.size HB4.out) _).setCell (by show _ ≤ gp; exact HGP.out) _).setCell (by show _ ≤ gp; exact HGP.out) _, by omega, l2, l3, l4⟩
              case measure => simp [intOf] <;> omega
          · have g1' : decide (0 ≤ at_) = false := decide_eq_false g1
            go_quiet (fail)
            go_wp2_with fail
            go_roundw
            case rel => exact ⟨k + 1, na, nb, by go_num, hlt, HP4.out.set, ((below_draws (below_step HBW.out HBW.out.size HB4.out) _).setCell (by show _ ≤ gp; exact HGP.out) _).setCell (by show _ ≤ gp; exact HGP.out) _, by omega, l2, l3, l4⟩
            case measure => simp [intOf] <;> omega
    · have hki : ¬ (k : Int) < (n : Int) := by omega
      go_wp2_with (first
        | (go_at_call 12; refine (knows_any _).mono ?_; rintro e w9 ⟨rfl, hb9⟩; have HB9 := Lib.hid (below_step HBW.out HBW.out.size hb9); clear hb9)
        | fail)
      go_ret
      exact ⟨rfl, HB9.out⟩
end Go.Proofs.Ytlcnpfiiijehmaa
