/-
  The reference's fits: puts and trims.
-/
import Derived.Test.YtbnbeailbhnbdaaFitB
import Derived.Test.YtbnbeailbhnbdaaRefC1
set_option linter.unusedVariables false
set_option linter.unusedSimpArgs false
namespace Go.Proofs.Ytbnbeailbhnbdaa
open Go.RowKit

def RetFitR (S : Nat → Prop) (g : Nat) (b : Bool) (first : Nat) (l : List (List UInt8)) (w : World) (e : Ending) (w' : World) : Prop := e = .returned (.bool b) ∧ ModAt 28 (Plus S w) g first l w' ∧ Outside S w w'
theorem fit_endR {S : Nat → Prop} {g first : Nat} {l : List (List UInt8)} {w W w5 : World} {b : Bool} (hB : Below w.heap.size w W) (h : ModAt 28 (Plus (Cut S w) W) g first l w5) (hO : Outside (Cut S w) W w5) : RetFitR S g b first l w (.returned (.bool b)) w5 :=
  ⟨rfl, h.mono (Cut.plus hB.size), (Outside.of_below hB).trans hO (fun b hb hs => hs.1)⟩
/-- Records that are only seen. -/
def RecFar (_T : Unit) (l : List (List UInt8)) (X : Option Addr) (n _c : Nat) (W : World) : Prop :=
  ∃ cells, l.length = n ∧ Sees W X cells ∧ Recs (fun W b cs => ∃ A c, cs = [.slice A b.length c] ∧ Sees W A (u8s b)) 1 W l cells
theorem RecFar.below {T : Unit} {l : List (List UInt8)} {X : Option Addr} {n c : Nat} {W W' : World} (h : RecFar T l X n c W) (hb : Below W.heap.size W W') : RecFar T l X n c W' := by
  obtain ⟨cells, h1, h2, h3⟩ := h
  exact ⟨cells, h1, h2.below hb, h3.imp fun j x cs _ hl => by
    obtain ⟨A, c, e, h⟩ := hl
    exact ⟨A, c, e, h.below hb⟩⟩
theorem rec_far_at {T : Unit} {l : List (List UInt8)} {n c i : Nat} {X : Option Addr} {W : World} (h : RecFar T l X n c W) (hi : i < n) :
    ∃ x A1 q a1 ad, l[i]? = some x ∧ x.length = q ∧ X = some ad ∧ W.cell? (ad.add i) = some (.slice A1 q a1) ∧ Sees W A1 (u8s x) := by
  obtain ⟨cells, h1, h2, h4⟩ := h
  have hil : i < l.length := by omega
  obtain ⟨cs, _, ⟨A1, a1, rfl, ho⟩, hcs⟩ := h4.get (List.getElem?_eq_getElem hil)
  have hu : cells[i]? = some (.slice A1 l[i].length a1) := by simpa using hcs 0 _ rfl
  obtain ⟨ad, e, hc⟩ := h2 i _ hu
  exact ⟨_, A1, _, a1, ad, List.getElem?_eq_getElem hil, rfl, e, hc, ho⟩
def CallFar (c : CV) (data : List UInt8) (recs : List (List UInt8)) (W : World) : Prop :=
  ∃ D dc R nr rc T, c.dv = .slice D data.length dc ∧ c.rv = .slice R nr rc ∧ data.length ≤ dc ∧ Sees W D (u8s data) ∧ RecFar T recs R nr rc W
set_option maxHeartbeats 4000000 in
theorem reffits_put {S : Nat → Prop} {g first : Nat} {l : List (List UInt8)} (c : CV) (data : List UInt8) (recs : List (List UInt8)) (w : World) (h : ModAt 28 S g first l w) (hf : first ≤ 140737488355328) (hl : l.length ≤ 4398046511104) (hd : data.length ≤ 140737488355328) (hc : CallFar c data recs w) (hk : c.kind = 1) :
    Calls Try.prog 35 #[.pointer (some ⟨g, 0, none⟩), c.val] w (RetFitR S g (fitOK c recs first l || !c.ans) (fitF c first l) (fitL c data first l) w) := by
  obtain ⟨D, dc, R, nr, rc, T, e1, e2, e3, hs, hr⟩ := hc
  obtain ⟨c1, c2, c3, c4, c5, c6, c7, c8, c9, c10, c11, c12⟩ := c
  dsimp only at hk e1 e2
  subst hk e1 e2
  unfold CV.val CV.cells fitOK fitF fitL
  dsimp only
  rw [if_pos rfl, if_neg (by decide), if_pos rfl]
  have hal : Below w.heap.size w (w.alloc (.cells #[.int .i64 c1, .int .i64 c2, .int .i64 c3, .int .i64 1, .int .i64 c5, .bool c6, .int .i64 c7, .int .i64 c8, .int .i64 c9, .int .i64 c10, .slice D data.length dc, .slice R nr rc] 50)) := (Below.refl w.heap.size w).alloc (Nat.le_refl _) _
  obtain ⟨W, hW⟩ : ∃ W, (w.alloc (.cells #[.int .i64 c1, .int .i64 c2, .int .i64 c3, .int .i64 1, .int .i64 c5, .bool c6, .int .i64 c7, .int .i64 c8, .int .i64 c9, .int .i64 c10, .slice D data.length dc, .slice R nr rc] 50)) = W := ⟨_, rfl⟩
  rw [hW] at hal
  have k3 : W.cell? ⟨w.heap.size, 3, none⟩ = some (.int .i64 1) := by rw [← hW]; simp
  have k5 : W.cell? ⟨w.heap.size, 5, none⟩ = some (.bool c6) := by rw [← hW]; simp
  have k8 : W.cell? ⟨w.heap.size, 8, none⟩ = some (.int .i64 c9) := by rw [← hW]; simp
  have k10 : W.cell? ⟨w.heap.size, 10, none⟩ = some (.slice D data.length dc) := by rw [← hW]; simp
  have HW := Lib.hid hW
  have HB := Lib.hid hal
  have HM : Hid (ModAt 28 (Cut S w) g first l W) := Lib.hid (h.cut.below hal)
  have HS : Hid (Sees W D (u8s data)) := Lib.hid (hs.below hal)
  clear h hs hr hW hal
  go_enter Try.func35, Try.ntmps35
  go_upto_region 1 with fail
  rw [HW.out]
  obtain ⟨bx, hbx⟩ : ∃ bx, w.heap.size = bx := ⟨_, rfl⟩
  have HX : Hid (¬ Cut S w bx) := Lib.hid (fun hc => by have := hc.2; omega)
  rw [hbx] at k3 k5 k8 k10 ⊢
  have d8 : W.drew.cell? ⟨bx, 8, none⟩ = some (.int .i64 c9) := k8
  have d10 : W.drew.cell? ⟨bx, 10, none⟩ = some (.slice D data.length dc) := k10
  obtain ⟨n, hn⟩ : ∃ n, l.length = n := ⟨_, rfl⟩
  have HPUT := Lib.hid (refput_any D data dc W HM.out hf hl e3 hd HS.out)
  have HBX := Lib.hid hbx
  clear hbx hn
  obtain ⟨b, hb⟩ : ∃ b, ((first : Int) + (l.length : Int) == c9) = b := ⟨_, rfl⟩
  have hb2 : (c9 == ((first + l.length : Nat) : Int)) = b := by
    rw [← hb, BEq.comm]
    congr 1
  have hb3 : (((first + l.length : Nat) : Int) == c9) = b := by
    rw [← hb]
    congr 1
  have HB2 := Lib.hid hb2
  clear hb2
  cases c6 with
  | false =>
    go_wp2_with (first
      | (go_at_call 12; refine HPUT.out.mono ?_; rintro e w5 ⟨rfl, hM5, hO5⟩; have m5 := out_cell (p := ⟨bx, 5, none⟩) hO5 HX.out k5; have m8 := out_cell (p := ⟨bx, 8, none⟩) hO5 HX.out k8; have HE := Lib.hid (fun b : Bool => fit_endR (b := b) HB.out hM5 hO5); clear hM5 hO5)
      | fail)
    go_ret
    rw [HB2.out]
    rw [Bool.not_false, Bool.or_true]
    exact HE.out true
  | true =>
    go_wp2_with (first
      | (go_at_call 12; refine HPUT.out.mono ?_; rintro e w5 ⟨rfl, hM5, hO5⟩; have m5 := out_cell (p := ⟨bx, 5, none⟩) hO5 HX.out k5; have m8 := out_cell (p := ⟨bx, 8, none⟩) hO5 HX.out k8; have HE := Lib.hid (fun b : Bool => fit_endR (b := b) HB.out hM5 hO5); clear hM5 hO5)
      | fail)
    go_ret
    rw [HB2.out]
    rw [Bool.not_true, Bool.or_false]
    exact HE.out b
set_option maxHeartbeats 4000000 in
theorem reffits_trim {S : Nat → Prop} {g first : Nat} {l : List (List UInt8)} (c : CV) (data : List UInt8) (recs : List (List UInt8)) (w : World) (h : ModAt 28 S g first l w) (hf : first ≤ 140737488355328) (hl : l.length ≤ 4398046511104) (hd : data.length ≤ 140737488355328) (hc : CallFar c data recs w) (hk : c.kind = 3) :
    Calls Try.prog 35 #[.pointer (some ⟨g, 0, none⟩), c.val] w (RetFitR S g (fitOK c recs first l || !c.ans) (fitF c first l) (fitL c data first l) w) := by
  obtain ⟨D, dc, R, nr, rc, T, e1, e2, e3, hs, hr⟩ := hc
  obtain ⟨c1, c2, c3, c4, c5, c6, c7, c8, c9, c10, c11, c12⟩ := c
  dsimp only at hk e1 e2
  subst hk e1 e2
  unfold CV.val CV.cells fitOK fitF fitL
  dsimp only
  rw [if_neg (by decide), if_pos rfl, if_pos rfl, if_neg (by decide), if_pos rfl]
  have hal : Below w.heap.size w (w.alloc (.cells #[.int .i64 c1, .int .i64 c2, .int .i64 c3, .int .i64 3, .int .i64 c5, .bool c6, .int .i64 c7, .int .i64 c8, .int .i64 c9, .int .i64 c10, .slice D data.length dc, .slice R nr rc] 50)) := (Below.refl w.heap.size w).alloc (Nat.le_refl _) _
  obtain ⟨W, hW⟩ : ∃ W, (w.alloc (.cells #[.int .i64 c1, .int .i64 c2, .int .i64 c3, .int .i64 3, .int .i64 c5, .bool c6, .int .i64 c7, .int .i64 c8, .int .i64 c9, .int .i64 c10, .slice D data.length dc, .slice R nr rc] 50)) = W := ⟨_, rfl⟩
  rw [hW] at hal
  have k3 : W.cell? ⟨w.heap.size, 3, none⟩ = some (.int .i64 3) := by rw [← hW]; simp
  have k5 : W.cell? ⟨w.heap.size, 5, none⟩ = some (.bool c6) := by rw [← hW]; simp
  have k8 : W.cell? ⟨w.heap.size, 9, none⟩ = some (.int .i64 c10) := by rw [← hW]; simp
  have k10 : W.cell? ⟨w.heap.size, 6, none⟩ = some (.int .i64 c7) := by rw [← hW]; simp
  have HW := Lib.hid hW
  have HB := Lib.hid hal
  have HM : Hid (ModAt 28 (Cut S w) g first l W) := Lib.hid (h.cut.below hal)
  have HS : Hid (Sees W D (u8s data)) := Lib.hid (hs.below hal)
  clear h hs hr hW hal
  go_enter Try.func35, Try.ntmps35
  go_upto_region 1 with fail
  rw [HW.out]
  obtain ⟨bx, hbx⟩ : ∃ bx, w.heap.size = bx := ⟨_, rfl⟩
  have HX : Hid (¬ Cut S w bx) := Lib.hid (fun hc => by have := hc.2; omega)
  rw [hbx] at k3 k5 k8 k10 ⊢
  have d8 : W.drew.cell? ⟨bx, 9, none⟩ = some (.int .i64 c10) := k8
  have d10 : W.drew.cell? ⟨bx, 6, none⟩ = some (.int .i64 c7) := k10
  obtain ⟨n, hn⟩ : ∃ n, l.length = n := ⟨_, rfl⟩
  have HPUT := Lib.hid (reftrim_any c7 W HM.out hf hl)
  have HBX := Lib.hid hbx
  clear hbx hn
  obtain ⟨t, ht⟩ : ∃ t, clampN c7 first l.length = t := ⟨_, rfl⟩
  rw [ht] at HPUT
  obtain ⟨b, hb⟩ : ∃ b, ((t : Int) == c10) = b := ⟨_, rfl⟩
  have hb2 : (c10 == ((clampN c7 first l.length : Nat) : Int)) = b := by
    rw [ht, ← hb, BEq.comm]
  have HB2 := Lib.hid hb2
  have HTT := Lib.hid ht
  clear hb2 ht
  cases c6 with
  | false =>
    go_wp2_with (first
      | (go_at_call 14; refine HPUT.out.mono ?_; rintro e w5 ⟨rfl, hM5, hO5⟩; have m5 := out_cell (p := ⟨bx, 5, none⟩) hO5 HX.out k5; have m8 := out_cell (p := ⟨bx, 9, none⟩) hO5 HX.out k8; have HE := Lib.hid (fun b : Bool => fit_endR (b := b) HB.out hM5 hO5); clear hM5 hO5)
      | fail)
    go_ret
    rw [HB2.out, HTT.out]
    rw [Bool.not_false, Bool.or_true]
    exact HE.out true
  | true =>
    go_wp2_with (first
      | (go_at_call 14; refine HPUT.out.mono ?_; rintro e w5 ⟨rfl, hM5, hO5⟩; have m5 := out_cell (p := ⟨bx, 5, none⟩) hO5 HX.out k5; have m8 := out_cell (p := ⟨bx, 9, none⟩) hO5 HX.out k8; have HE := Lib.hid (fun b : Bool => fit_endR (b := b) HB.out hM5 hO5); clear hM5 hO5)
      | fail)
    go_ret
    rw [HB2.out, HTT.out]
    rw [Bool.not_true, Bool.or_false]
    exact HE.out b
end Go.Proofs.Ytbnbeailbhnbdaa
