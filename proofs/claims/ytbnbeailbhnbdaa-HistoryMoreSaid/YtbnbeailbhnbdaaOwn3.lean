/-
  Own: the walk.
-/
import Derived.Test.YtbnbeailbhnbdaaOwn2
import Derived.Deep.RegionHeld3
import Derived.Deep.CutBlock
import Derived.Deep.DeepCutAuto
set_option linter.unusedVariables false
set_option linter.unusedSimpArgs false
namespace Go.Proofs.Ytbnbeailbhnbdaa
open Go.RowKit

theorem infoCall : (Try.prog.info? 62).map (fun i => (i.zero, i.size, i.bytes)) = some (some (.agg zeros12), 12, 128) := by kernel_rfl
/-- What the region has made: both slices. -/
def Made (n0 : Nat) (x : Full) (W : World) (d r : Value) (W' : World) : Prop := OwnSees n0 ({ x.1 with dv := d, rv := r }, x.2) W' ∧ Below W.heap.size W W'
theorem own_more {n0 k c c2 : Nat} {xs ys : List Full} {A A2 : Option Addr} {w wr W w5 w6 : World} {x : Full} {d r : Value} (h : OwnC n0 xs k A c ys wr) (hx : xs[k]? = some x) (hb : Below n0 w wr) (hn0 : n0 ≤ wr.heap.size) (hW : Below wr.heap.size wr W) {bx : Nat} (hbe : wr.heap.size = bx) (hm : Made bx x W d r w5)
    (h6 : w6.ownsRow n0 62 12 (.slice A2 (k + 1) c2) (k + 1) (((ys.map fun y => y.1.cells.toList).flatten) ++ ({ x.1 with dv := d, rv := r } : CV).cells.toList))
    (hg : (w5.alloc (.cells ({ x.1 with dv := d, rv := r } : CV).cells 62)).grownBy w6 (Value.slice A k c).ownBlock) :
    OwnC n0 xs (k + 1) A2 c2 (ys ++ [({ x.1 with dv := d, rv := r }, x.2)]) w6 ∧ Below n0 w w6 := by
  subst hbe
  obtain ⟨h1, h2, h3, h4⟩ := h
  have hal : Below w5.heap.size w5 (w5.alloc (.cells ({ x.1 with dv := d, rv := r } : CV).cells 62)) := (Below.refl _ _).alloc (Nat.le_refl _) _
  have hW5 : Below wr.heap.size wr w5 := below_step hW hW.size hm.2
  have hbal := below_step hW5 hW5.size hal
  have ho1 := own_keep h1 hbal
  refine ⟨⟨?_, by simp [h2], ?_, ?_⟩, below_grown_own (below_step hb hn0 hbal) (by have := hbal.size; omega) ho1 (Nat.le_refl _) hg⟩
  · simpa using h6
  · intro j a b ha hb'
    rcases Nat.lt_or_ge j k with hj | hj
    · rw [List.getElem?_append_left (by omega)] at hb'
      exact h3 j a b ha hb'
    · rw [List.getElem?_append_right (by omega)] at hb'
      have hjk : j = k := by
        have := (List.getElem?_eq_some_iff.1 hb').1
        simp at this
        omega
      subst hjk
      rw [h2, Nat.sub_self] at hb'
      cases hb'
      rw [hx] at ha
      cases ha
      exact ⟨rfl, rfl⟩
  · intro y hy
    rcases List.mem_append.1 hy with hy | hy
    · exact ((h4 y hy).below hbal).apart ho1 hg
    · rw [List.mem_singleton.1 hy]
      have h9 := (hm.1.below hal).apart ho1 hg
      obtain ⟨⟨D, dc, e1, q1⟩, R, rc, cells, e2, q2, q3⟩ := h9
      exact ⟨⟨D, dc, e1, own_lower q1 hn0⟩, R, rc, cells, e2, own_lower q2 hn0, q3.imp fun j x cs _ hR => by
        obtain ⟨A', c', e, ho', hs'⟩ := hR
        exact ⟨A', c', e, ho', fun b hb => Nat.le_trans hn0 (hs' b hb)⟩⟩
theorem made_of {bx q mR c4 c5 : Nat} {x : Full} {A4 A5 : Option Addr} {cells5 : List Value} {W W' : World} (hq : x.2.1.length = q) (hm : x.2.2.length = mR) (h4 : W'.ownsRow bx 5 1 (.slice A4 q c4) q (u8s x.2.1)) (h5 : W'.ownsRow bx 30 1 (.slice A5 mR c5) mR cells5) (hr : Recs (byRow (fun b => bx ≤ b)) 1 W' x.2.2 cells5) (hb : Below W.heap.size W W') :
    Made bx x W (.slice A4 q c4) (.slice A5 mR c5) W' := by
  subst hq hm
  exact ⟨⟨⟨A4, c4, rfl, h4⟩, A5, c5, cells5, rfl, h5, hr⟩, hb⟩
theorem recs_lower {a b : Nat} {W : World} {l : List (List UInt8)} {cells : List Value} (h : Recs (byRow (fun x => a ≤ x)) 1 W l cells) (hab : b ≤ a) : Recs (byRow (fun x => b ≤ x)) 1 W l cells := h.imp fun j x cs _ hl => by
  obtain ⟨A1, c1, e, ho, hs⟩ := hl
  exact ⟨A1, c1, e, ho, fun z hz => Nat.le_trans hab (hs z hz)⟩
set_option maxRecDepth 16384 in
set_option maxHeartbeats 8000000 in
theorem own_any (A : Option Addr) (xs : List Full) (m c : Nat) (w : World) (h : SeenC w A xs) (hm : xs.length = m) (hm2 : m * 128 ≤ 140737488351232) (hs : Small xs) :
    Calls Try.prog 22 #[.slice A m c] w (RetCalls xs w) := by
  have H := Lib.hid h
  have HM := Lib.hid hm
  have HS := Lib.hid hs
  clear h hm hs
  obtain ⟨n0, hn0⟩ : ∃ n0, w.heap.size = n0 := ⟨_, rfl⟩
  have HN0 := Lib.hid hn0
  go_enter Try.func22, Try.ntmps22
  go_wp2_with fail
  have rel0 : ∃ (k : Nat) (A3 : Option Addr) (c3 : Nat) (ys : List Full), Value.slice none 0 0 = .slice A3 k c3 ∧ Value.int .i64 0 = .int .i64 (k : Int) ∧ k ≤ m ∧ OwnC n0 xs k A3 c3 ys w ∧ Below n0 w w ∧ n0 ≤ w.heap.size :=
    ⟨0, none, 0, [], rfl, rfl, Nat.zero_le _, ⟨⟨rfl, .inl ⟨rfl, rfl⟩⟩, rfl, fun j x y hx hy => by simp at hy, fun y hy => by cases hy⟩, Below.refl _ _, by omega⟩
  have REL0 := Lib.hid rel0
  clear rel0 hn0
  go_loopw [3, 4] (fun s3 s4 wr => ∃ (k : Nat) (A3 : Option Addr) (c3 : Nat) (ys : List Full), s3 = .slice A3 k c3 ∧ s4 = .int .i64 (k : Int) ∧ k ≤ m ∧ OwnC n0 xs k A3 c3 ys wr ∧ Below n0 w wr ∧ n0 ≤ wr.heap.size) (fun _ s4 _ => m - (intOf s4).toNat)
  case atStart => exact REL0.out
  case round =>
    obtain ⟨k, A3, c3, ys, rfl, rfl, hk, hro, hb, hz⟩ := hrel
    have HRO := Lib.hid hro
    have HB := Lib.hid hb
    clear hro hb REL0
    by_cases hlt : k < m
    · have hki : (k : Int) < (m : Int) := by omega
      obtain ⟨x, hx⟩ : ∃ x, xs[k]? = some x := ⟨_, List.getElem?_eq_getElem (by rw [HM.out]; exact hlt)⟩
      obtain ⟨ad, rfl, hcs, ⟨D, dc, e1, e2, e3⟩, R, rc, e4, e5⟩ := (H.out.below (by rw [HN0.out]; exact HB.out)).at hx
      obtain ⟨s1, s2, s3⟩ := HS.out x (List.mem_of_getElem? hx)
      obtain ⟨⟨c1, c2, c3', c4, c5, c6, c7, c8, c9, c10, dv, rv⟩, bs, rs⟩ := x
      dsimp only at e1 e2 e3 e4 e5 s1 s2 s3 hcs
      subst e1 e4
      obtain ⟨q, hq⟩ : ∃ q, bs.length = q := ⟨_, rfl⟩
      obtain ⟨mR, hmR⟩ : ∃ mR, rs.length = mR := ⟨_, rfl⟩
      rw [hq] at e2 s1
      rw [hmR] at s2
      have hca : (⟨c1, c2, c3', c4, c5, c6, c7, c8, c9, c10, .slice D bs.length dc, .slice R rs.length rc⟩ : CV).cells.toList = [.int .i64 c1, .int .i64 c2, .int .i64 c3', .int .i64 c4, .int .i64 c5, .bool c6, .int .i64 c7, .int .i64 c8, .int .i64 c9, .int .i64 c10, .slice D q dc, .slice R mR rc] := by rw [hq, hmR]; rfl
      rw [hca] at hcs
      have hia : (Try.prog.info? 50).map (·.size) = some 12 := by kernel_rfl
      obtain ⟨hbx, hrx⟩ := box_callR (c := ⟨c1, c2, c3', c4, c5, c6, c7, c8, c9, c10, .slice D bs.length dc, .slice R rs.length rc⟩) wr
      rw [hca] at hbx hrx
      obtain ⟨ca, hcae⟩ : ∃ ca : List Value, [.int .i64 c1, .int .i64 c2, .int .i64 c3', .int .i64 c4, .int .i64 c5, .bool c6, .int .i64 c7, .int .i64 c8, .int .i64 c9, .int .i64 c10, .slice D q dc, .slice R mR rc] = ca := ⟨_, rfl⟩
      obtain ⟨W, hW⟩ : ∃ W, ((wr.alloc (.cells zeros12 50)).setCells wr.heap.size 0 ca) = W := ⟨_, rfl⟩
      rw [hcae, hW] at hbx hrx
      rw [hcae] at hcs
      have la : ca.length = 12 := by rw [← hcae]; rfl
      obtain ⟨bx, hbxe⟩ : ∃ bx, wr.heap.size = bx := ⟨_, rfl⟩
      rw [hbxe] at hrx
      have hone : ca.toArray.all (·.oneCell') = true := by rw [← hcae]; simp [Value.oneCell']
      have HOX : Hid (∀ W', Below W.heap.size W W' → W'.cell? ⟨bx, 0, none⟩ = some (.int .i64 c1) ∧ W'.cell? ⟨bx, 1, none⟩ = some (.int .i64 c2) ∧ W'.cell? ⟨bx, 2, none⟩ = some (.int .i64 c3') ∧ W'.cell? ⟨bx, 3, none⟩ = some (.int .i64 c4) ∧ W'.cell? ⟨bx, 4, none⟩ = some (.int .i64 c5) ∧ W'.cell? ⟨bx, 5, none⟩ = some (.bool c6) ∧ W'.cell? ⟨bx, 6, none⟩ = some (.int .i64 c7) ∧ W'.cell? ⟨bx, 7, none⟩ = some (.int .i64 c8) ∧ W'.cell? ⟨bx, 8, none⟩ = some (.int .i64 c9) ∧ W'.cell? ⟨bx, 9, none⟩ = some (.int .i64 c10) ∧ W'.cell? ⟨bx, 10, none⟩ = some (.slice D q dc) ∧ W'.cell? ⟨bx, 11, none⟩ = some (.slice R mR rc)) := Lib.hid (by
        intro W' hb'
        have hk : ∀ j v, ca[j]? = some v → W'.cell? ⟨bx, j, none⟩ = some v := fun j v hj => by
          have h9 := hrx j v hj
          rw [Nat.zero_add] at h9
          exact (hb'.cell (World.block_lt_of_cell? _ _ h9)).trans h9
        rw [← hcae] at hk
        exact ⟨hk 0 _ rfl, hk 1 _ rfl, hk 2 _ rfl, hk 3 _ rfl, hk 4 _ rfl, hk 5 _ rfl, hk 6 _ rfl, hk 7 _ rfl, hk 8 _ rfl, hk 9 _ rfl, hk 10 _ rfl, hk 11 _ rfl⟩)
      have HOY : Hid (∀ (W' W'' : World), Below W.heap.size W W' → W''.heap[bx]? = W'.heap[bx]? → W''.cell? ⟨bx, 0, none⟩ = some (.int .i64 c1) ∧ W''.cell? ⟨bx, 1, none⟩ = some (.int .i64 c2) ∧ W''.cell? ⟨bx, 2, none⟩ = some (.int .i64 c3') ∧ W''.cell? ⟨bx, 3, none⟩ = some (.int .i64 c4) ∧ W''.cell? ⟨bx, 4, none⟩ = some (.int .i64 c5) ∧ W''.cell? ⟨bx, 5, none⟩ = some (.bool c6) ∧ W''.cell? ⟨bx, 6, none⟩ = some (.int .i64 c7) ∧ W''.cell? ⟨bx, 7, none⟩ = some (.int .i64 c8) ∧ W''.cell? ⟨bx, 8, none⟩ = some (.int .i64 c9) ∧ W''.cell? ⟨bx, 9, none⟩ = some (.int .i64 c10) ∧ W''.cell? ⟨bx, 10, none⟩ = some (.slice D q dc) ∧ W''.cell? ⟨bx, 11, none⟩ = some (.slice R mR rc)) := Lib.hid (by
        intro W' W'' hb' hk'
        obtain ⟨k0, k1, k2, k3, k4, k5, k6, k7, k8, k9, k10, k11⟩ := HOX.out W' hb'
        have hh : ∀ j, W''.cell? ⟨bx, j, none⟩ = W'.cell? ⟨bx, j, none⟩ := fun j => World.cell?_of_block hk'
        exact ⟨(hh 0).trans k0, (hh 1).trans k1, (hh 2).trans k2, (hh 3).trans k3, (hh 4).trans k4, (hh 5).trans k5, (hh 6).trans k6, (hh 7).trans k7, (hh 8).trans k8, (hh 9).trans k9, (hh 10).trans k10, (hh 11).trans k11⟩)
      have HX := Lib.hid hx
      have HCS := Lib.hid hcs
      have HONE := Lib.hid hone
      have HIA := Lib.hid hia
      have HBX := Lib.hid hbx
      have HWW := Lib.hid hW
      have HBE := Lib.hid hbxe
      have HSD := Lib.hid (e3.below hbx)
      have HSR := Lib.hid (e5.below hbx)
      have HLA := Lib.hid la
      have HQ := Lib.hid hq
      have HMR := Lib.hid hmR
      have HS3 := Lib.hid s3
      have HCE := Lib.hid hcae
      have hbW : bx ≤ W.heap.size := by rw [← hbxe]; exact hbx.size
      have hbW2 : bx < W.heap.size := by have h9 := World.block_lt_of_cell? _ _ (HOX.out W (Below.refl _ _)).1; exact h9
      clear hx hcs hone hia hbx hrx hW hbxe e3 e5 la hq hmR hca hcae s3
      go_upto_region 6 with (first
        | (refine wpList_load_far rfl 50 _ rfl (ad.add (k * 12)) rfl ca _ HCS.out Try.underlying50 rfl (by rw [HLA.out]; exact HIA.out) ?_)
        | (refine wpList_store_mid rfl 50 _ _ rfl wr.heap.size 0 ca.toArray rfl rfl (by show World.there _ _ 0 ca.length; rw [HLA.out]; exact there_oneR wr) (by show _ = some ca.length; rw [HLA.out]; exact HIA.out) HONE.out ?_)
        | fail)
      have hWW := HWW.out
      unfold zeros12 at hWW
      try rw [hWW]
      try rw [HBE.out]
      clear hWW
      have b0 : Below W.heap.size W W.drew := (Below.refl _ _).drew
      have b1 : Below W.heap.size W (W.alloc (.cells #[] 5)).drew := ((Below.refl _ _).alloc (Nat.le_refl _) _).drew
      have hb1' : Below W.heap.size W (W.alloc (.cells #[] 5)) := (Below.refl _ _).alloc (Nat.le_refl _) _
      have HBY : Hid (∀ W', Below W.heap.size W W' → Calls Try.prog 33 #[.slice R mR rc] W' (RetRows rs W')) := Lib.hid (fun W' hb => bytes_any R rs mR rc W' (HSR.out.below hb) HMR.out s2 HS3.out)
      have HDS : Hid (∀ W', Below W.heap.size W W' → Sees W' D (u8s bs)) := Lib.hid (fun W' hb => HSD.out.below hb)
      go_region_held3 (fun W' => W'.cell? ⟨bx, 0, none⟩ = some (.int .i64 c1) ∧ W'.cell? ⟨bx, 1, none⟩ = some (.int .i64 c2) ∧ W'.cell? ⟨bx, 2, none⟩ = some (.int .i64 c3') ∧ W'.cell? ⟨bx, 3, none⟩ = some (.int .i64 c4) ∧ W'.cell? ⟨bx, 4, none⟩ = some (.int .i64 c5) ∧ W'.cell? ⟨bx, 5, none⟩ = some (.bool c6) ∧ W'.cell? ⟨bx, 6, none⟩ = some (.int .i64 c7) ∧ W'.cell? ⟨bx, 7, none⟩ = some (.int .i64 c8) ∧ W'.cell? ⟨bx, 8, none⟩ = some (.int .i64 c9) ∧ W'.cell? ⟨bx, 9, none⟩ = some (.int .i64 c10) ∧ W'.cell? ⟨bx, 10, none⟩ = some (.slice D q dc) ∧ W'.cell? ⟨bx, 11, none⟩ = some (.slice R mR rc))
        (first
          | (refine HOX.out _ ?_; assumption)
          | exact S6
          | fail)
        (first
          | (refine step_append_sees rfl (.tmp 37) (.tmp 39) 30 (by rfl) W.heap.size 5 (.int .u8 0) 1 1 Try.underlying30 infoU8 rfl (by decide) (.slice (some ⟨W.heap.size, 0, none⟩) 0 0) 0 [] (by rfl) (by exact own_made0 W _ 1) D q dc (u8s bs) (by rfl) (by simp [u8s, HQ.out]) (by exact HDS.out _ b1) (u8s_one _) (by simp only [maxLen]; omega) (by omega) (by simp) ?_; intro A4 c4' w4 hown4' hg4 hat4; have b4 : Below W.heap.size W w4 := below_grown_own b1 (by simp) (own_made0 W 5 1) (Nat.le_refl _) hg4; have e0 : 0 + q = q := Nat.zero_add _; rw [e0]; have HO4 := Lib.hid hown4'; rw [e0] at HO4; clear hown4' hg4 hat4 e0)
          | (have hx := HO4; go_simp; go_at_call 33; refine (HBY.out _ b4).mono ?_; rintro e w5 ⟨A5, m5, c5', cells5, rfl, hm5, ho5, hr5, hb5⟩; obtain rfl : m5 = mR := (hm5.trans HMR.out); have b5 : Below W.heap.size W w5 := below_step b4 b4.size hb5; have HMD := Lib.hid (made_of (x := (⟨c1, c2, c3', c4, c5, c6, c7, c8, c9, c10, .slice D q dc, .slice R m5 rc⟩, bs, rs)) HQ.out HMR.out (own_lower (own_keep (by simpa using HO4.out) hb5) hbW) (own_lower ho5 (Nat.le_trans hbW b4.size)) (recs_lower hr5 (Nat.le_trans hbW b4.size)) b5); have bA := b5.alloc b5.size (.cells #[.int .i64 c1, .int .i64 c2, .int .i64 c3', .int .i64 c4, .int .i64 c5, .bool c6, .int .i64 c7, .int .i64 c8, .int .i64 c9, .int .i64 c10, .slice A4 q c4', .slice A5 m5 c5'] 62); clear hm5 ho5 hr5 hb5)
          | (have hx := HMD; refine step_append_sees rfl (.tmp 16) (.tmp 45) 45 (by rfl) n0 62 (.agg zeros12) 12 128 Try.underlying45 infoCall rfl (by decide) (.slice A3 k c3) k ((ys.map fun y => y.1.cells.toList).flatten) (by rfl) (by exact own_keep HRO.out.1 (below_step HBX.out HBX.out.size bA)) (some ⟨w5.heap.size, 0, none⟩) 1 1 [.int .i64 c1, .int .i64 c2, .int .i64 c3', .int .i64 c4, .int .i64 c5, .bool c6, .int .i64 c7, .int .i64 c8, .int .i64 c9, .int .i64 c10, .slice A4 q c4', .slice A5 m5 c5'] (by rfl) (by rfl) (by exact sees_new _ _ _) (by simp [Value.oneCell']) (by simp only [maxLen]; omega) (by omega) (by have := bA.size; have := HBX.out.size; omega) ?_; intro A6 c6' w6 hown6 hg6 hat6; have HFIN := Lib.hid (own_more HRO.out HX.out HB.out hz HBX.out HBE.out HMD.out hown6 hg6); have S6 := HOY.out _ w6 bA (hg6.block bx (by have := bA.size; omega) (fun e => by have := (own_block_ge HRO.out.1 bx e.symm).2; have := HBE.out; omega)); have b6z := hg6.size; clear hown6 hg6 hat6)
          | fail)
      go_wp2_with fail
      go_roundw
      case rel => exact ⟨k + 1, A6, c6', _, rfl, by go_num, hlt, HFIN.out.1, HFIN.out.2, by have := bA.size; have := HBX.out.size; omega⟩
      case measure => simp [intOf] <;> omega
    · have hki : ¬ (k : Int) < (m : Int) := by omega
      go_wp2_with fail
      go_ret
      have hkm : k = m := by omega
      have h9 := HRO.out.done (w := w) (by rw [HM.out]; exact hkm) HN0.out HB.out
      exact h9
end Go.Proofs.Ytbnbeailbhnbdaa
