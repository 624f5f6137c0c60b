/-
  fits.
-/
import Derived.Test.YtbnbeailbhnbdaaFitA
import Derived.Test.YtbnbeailbhnbdaaCall6
import Derived.Deep.RegionHeld3
import Derived.Test.YtbnbeailbhnbdaaCalmO
set_option linter.unusedVariables false
set_option linter.unusedSimpArgs false
namespace Go.Proofs.Ytbnbeailbhnbdaa
open Go.RowKit

/-- Does a call fit, and the model behind it. -/
def fitOK (c : CV) (recs : List (List UInt8)) (first : Nat) (l : List (List UInt8)) : Bool :=
  if c.kind = 1 then c.number == ((first + l.length : Nat) : Int)
  else if c.kind = 3 then c.start == ((clampN c.frm first l.length : Nat) : Int)
  else getOK c.frm first l.length && (c.number == ((first + l.length : Nat) : Int) && (c.start == (first : Int) && decide (getL c.frm c.most first l = recs)))
def fitF (c : CV) (first : Nat) (l : List (List UInt8)) : Nat := if c.kind = 3 then clampN c.frm first l.length else first
def fitL (c : CV) (data : List UInt8) (first : Nat) (l : List (List UInt8)) : List (List UInt8) := if c.kind = 1 then l ++ [data] else if c.kind = 3 then l.drop (clampN c.frm first l.length - first) else l
def RetFit (S : Nat → Prop) (g : Nat) (b : Bool) (first : Nat) (l : List (List UInt8)) (w : World) (e : Ending) (w' : World) : Prop := e = .returned (.bool b) ∧ ModAt 61 (Plus S w) g first l w' ∧ Outside S w w'
/-- What a call's slices hold. -/
def CallSees (c : CV) (data : List UInt8) (recs : List (List UInt8)) (W : World) : Prop :=
  ∃ D dc R nr rc T, c.dv = .slice D data.length dc ∧ c.rv = .slice R nr rc ∧ data.length ≤ dc ∧ Sees W D (u8s data) ∧ RecSee T recs R nr rc W
theorem out_cell {S : Nat → Prop} {W W' : World} {p : Addr} {v : Value} (h : Outside S W W') (hp : ¬ S p.block) (hv : W.cell? p = some v) : W'.cell? p = some v := by
  have h2 := h.block p.block (World.block_lt_of_cell? _ _ hv) hp
  rw [← hv]
  simp only [World.cell?, h2]
theorem fit_end {S : Nat → Prop} {g first : Nat} {l : List (List UInt8)} {w W w5 : World} {b : Bool} (hB : Below w.heap.size w W) (h : ModAt 61 (Plus (Cut S w) W) g first l w5) (hO : Outside (Cut S w) W w5) : RetFit S g b first l w (.returned (.bool b)) w5 :=
  ⟨rfl, h.mono (Cut.plus hB.size), (Outside.of_below hB).trans hO (fun b hb hs => hs.1)⟩
set_option maxHeartbeats 4000000 in
theorem fits_put {S : Nat → Prop} {g first : Nat} {l : List (List UInt8)} (c : CV) (data : List UInt8) (recs : List (List UInt8)) (w : World) (h : ModAt 61 S g first l w) (hf : first ≤ 140737488355328) (hl : l.length ≤ 4398046511104) (hd : data.length ≤ 140737488355328) (hc : CallSees c data recs w) (hk : c.kind = 1) :
    Calls Try.prog 32 #[.pointer (some ⟨g, 0, none⟩), c.val] w (RetFit S g (fitOK c recs first l || !c.ans) (fitF c first l) (fitL c data first l) w) := by
  obtain ⟨D, dc, R, nr, rc, T, e1, e2, e3, hs, hr⟩ := hc
  obtain ⟨c1, c2, c3, c4, c5, c6, c7, c8, c9, c10, c11, c12⟩ := c
  dsimp only at hk e1 e2
  subst hk e1 e2
  unfold CV.val CV.cells fitOK fitF fitL
  dsimp only
  rw [if_pos rfl, if_neg (by decide), if_pos rfl]
  have hal : Below w.heap.size w (w.alloc (.cells #[.int .i64 c1, .int .i64 c2, .int .i64 c3, .int .i64 1, .int .i64 c5, .bool c6, .int .i64 c7, .int .i64 c8, .int .i64 c9, .int .i64 c10, .slice D data.length dc, .slice R nr rc] 62)) := (Below.refl w.heap.size w).alloc (Nat.le_refl _) _
  obtain ⟨W, hW⟩ : ∃ W, (w.alloc (.cells #[.int .i64 c1, .int .i64 c2, .int .i64 c3, .int .i64 1, .int .i64 c5, .bool c6, .int .i64 c7, .int .i64 c8, .int .i64 c9, .int .i64 c10, .slice D data.length dc, .slice R nr rc] 62)) = W := ⟨_, rfl⟩
  rw [hW] at hal
  have k3 : W.cell? ⟨w.heap.size, 3, none⟩ = some (.int .i64 1) := by rw [← hW]; simp
  have k5 : W.cell? ⟨w.heap.size, 5, none⟩ = some (.bool c6) := by rw [← hW]; simp
  have k8 : W.cell? ⟨w.heap.size, 8, none⟩ = some (.int .i64 c9) := by rw [← hW]; simp
  have k10 : W.cell? ⟨w.heap.size, 10, none⟩ = some (.slice D data.length dc) := by rw [← hW]; simp
  have HW := Lib.hid hW
  have HB := Lib.hid hal
  have HM : Hid (ModAt 61 (Cut S w) g first l W) := Lib.hid (h.cut.below hal)
  have HS : Hid (Sees W D (u8s data)) := Lib.hid (hs.below hal)
  clear h hs hr hW hal
  go_enter Try.func32, Try.ntmps32
  go_upto_region 2 with fail
  rw [HW.out]
  obtain ⟨bx, hbx⟩ : ∃ bx, w.heap.size = bx := ⟨_, rfl⟩
  have HX : Hid (¬ Cut S w bx) := Lib.hid (fun hc => by have := hc.2; omega)
  rw [hbx] at k3 k5 k8 k10 ⊢
  have d8 : W.drew.cell? ⟨bx, 8, none⟩ = some (.int .i64 c9) := k8
  have d10 : W.drew.cell? ⟨bx, 10, none⟩ = some (.slice D data.length dc) := k10
  obtain ⟨n, hn⟩ : ∃ n, l.length = n := ⟨_, rfl⟩
  have HPUT := Lib.hid (put_any D data dc W.drew (HM.out.below (Below.refl _ _).drew) hf hl e3 hd (HS.out.below (Below.refl _ _).drew))
  have HBX := Lib.hid hbx
  clear hbx hn
  go_upto_region 6 with fail
  go_region_held3 (fun W' => W'.cell? ⟨bx, 8, none⟩ = some (.int .i64 c9) ∧ W'.cell? ⟨bx, 10, none⟩ = some (.slice D data.length dc))
    (first
      | exact ⟨d8, d10⟩
      | exact ⟨m8, m10⟩
      | fail)
    (first
      | (go_simp; go_at_call 11; refine HPUT.out.mono ?_; rintro e w5 ⟨rfl, hM5, hO5⟩; have m5 := out_cell (p := ⟨bx, 5, none⟩) hO5 HX.out k5; have m8 := out_cell (p := ⟨bx, 8, none⟩) hO5 HX.out k8; have m10 := out_cell (p := ⟨bx, 10, none⟩) hO5 HX.out k10; have HM5 := Lib.hid hM5; have HO5 := Lib.hid hO5; clear hM5 hO5)
      | fail)
  obtain ⟨b, hb⟩ : ∃ b, ((first : Int) + (l.length : Int) == c9) = b := ⟨_, rfl⟩
  have hb2 : (c9 == ((first + l.length : Nat) : Int)) = b := by
    rw [← hb, BEq.comm]
    congr 1
  rw [hb]
  have HB2 := Lib.hid hb2
  have HE := Lib.hid (fun b : Bool => fit_end (b := b) HB.out (by exact HM5.out) ((Outside.refl _ W).drew.trans HO5.out (fun b _ hb => hb)))
  clear hb hb2
  cases b with
  | true =>
    go_wp2_with fail
    go_ret
    rw [HB2.out]
    exact HE.out true
  | false =>
    go_wp2_with fail
    go_ret
    rw [HB2.out]
    exact HE.out (!c6)
set_option maxHeartbeats 4000000 in
theorem fits_trim {S : Nat → Prop} {g first : Nat} {l : List (List UInt8)} (c : CV) (data : List UInt8) (recs : List (List UInt8)) (w : World) (h : ModAt 61 S g first l w) (hf : first ≤ 140737488355328) (hl : l.length ≤ 4398046511104) (hd : data.length ≤ 140737488355328) (hc : CallSees c data recs w) (hk : c.kind = 3) :
    Calls Try.prog 32 #[.pointer (some ⟨g, 0, none⟩), c.val] w (RetFit S g (fitOK c recs first l || !c.ans) (fitF c first l) (fitL c data first l) w) := by
  obtain ⟨D, dc, R, nr, rc, T, e1, e2, e3, hs, hr⟩ := hc
  obtain ⟨c1, c2, c3, c4, c5, c6, c7, c8, c9, c10, c11, c12⟩ := c
  dsimp only at hk e1 e2
  subst hk e1 e2
  unfold CV.val CV.cells fitOK fitF fitL
  dsimp only
  rw [if_neg (by decide), if_pos rfl, if_pos rfl, if_neg (by decide), if_pos rfl]
  have hal : Below w.heap.size w (w.alloc (.cells #[.int .i64 c1, .int .i64 c2, .int .i64 c3, .int .i64 3, .int .i64 c5, .bool c6, .int .i64 c7, .int .i64 c8, .int .i64 c9, .int .i64 c10, .slice D data.length dc, .slice R nr rc] 62)) := (Below.refl w.heap.size w).alloc (Nat.le_refl _) _
  obtain ⟨W, hW⟩ : ∃ W, (w.alloc (.cells #[.int .i64 c1, .int .i64 c2, .int .i64 c3, .int .i64 3, .int .i64 c5, .bool c6, .int .i64 c7, .int .i64 c8, .int .i64 c9, .int .i64 c10, .slice D data.length dc, .slice R nr rc] 62)) = W := ⟨_, rfl⟩
  rw [hW] at hal
  have k3 : W.cell? ⟨w.heap.size, 3, none⟩ = some (.int .i64 3) := by rw [← hW]; simp
  have k5 : W.cell? ⟨w.heap.size, 5, none⟩ = some (.bool c6) := by rw [← hW]; simp
  have k8 : W.cell? ⟨w.heap.size, 9, none⟩ = some (.int .i64 c10) := by rw [← hW]; simp
  have k10 : W.cell? ⟨w.heap.size, 6, none⟩ = some (.int .i64 c7) := by rw [← hW]; simp
  have HW := Lib.hid hW
  have HB := Lib.hid hal
  have HM : Hid (ModAt 61 (Cut S w) g first l W) := Lib.hid (h.cut.below hal)
  have HS : Hid (Sees W D (u8s data)) := Lib.hid (hs.below hal)
  clear h hs hr hW hal
  go_enter Try.func32, Try.ntmps32
  go_upto_region 2 with fail
  rw [HW.out]
  obtain ⟨bx, hbx⟩ : ∃ bx, w.heap.size = bx := ⟨_, rfl⟩
  have HX : Hid (¬ Cut S w bx) := Lib.hid (fun hc => by have := hc.2; omega)
  rw [hbx] at k3 k5 k8 k10 ⊢
  have d8 : W.drew.cell? ⟨bx, 9, none⟩ = some (.int .i64 c10) := k8
  have d10 : W.drew.cell? ⟨bx, 6, none⟩ = some (.int .i64 c7) := k10
  obtain ⟨n, hn⟩ : ∃ n, l.length = n := ⟨_, rfl⟩
  have HPUT := Lib.hid (trim_any c7 W.drew (HM.out.below (Below.refl _ _).drew) hf hl)
  have HBX := Lib.hid hbx
  clear hbx hn
  go_upto_region 8 with fail
  go_region_held3 (fun W' => W'.cell? ⟨bx, 9, none⟩ = some (.int .i64 c10) ∧ W'.cell? ⟨bx, 6, none⟩ = some (.int .i64 c7))
    (first
      | exact ⟨d8, d10⟩
      | exact ⟨m8, m10⟩
      | fail)
    (first
      | (go_simp; go_at_call 13; refine HPUT.out.mono ?_; rintro e w5 ⟨rfl, hM5, hO5⟩; have m5 := out_cell (p := ⟨bx, 5, none⟩) hO5 HX.out k5; have m8 := out_cell (p := ⟨bx, 9, none⟩) hO5 HX.out k8; have m10 := out_cell (p := ⟨bx, 6, none⟩) hO5 HX.out k10; have HM5 := Lib.hid hM5; have HO5 := Lib.hid hO5; clear hM5 hO5)
      | fail)
  obtain ⟨t, ht⟩ : ∃ t, clampN c7 first l.length = t := ⟨_, rfl⟩
  rw [ht] at HM5
  rw [ht]
  obtain ⟨b, hb⟩ : ∃ b, ((t : Int) == c10) = b := ⟨_, rfl⟩
  have hb2 : (c10 == ((clampN c7 first l.length : Nat) : Int)) = b := by
    rw [ht, ← hb, BEq.comm]
  rw [hb]
  have HB2 := Lib.hid hb2
  have HE := Lib.hid (fun b : Bool => fit_end (b := b) HB.out (by exact HM5.out) ((Outside.refl _ W).drew.trans HO5.out (fun b _ hb => hb)))
  have HTT := Lib.hid ht
  clear hb hb2 ht
  cases b with
  | true =>
    go_wp2_with fail
    go_ret
    rw [HB2.out, HTT.out]
    exact HE.out true
  | false =>
    go_wp2_with fail
    go_ret
    rw [HB2.out, HTT.out]
    exact HE.out (!c6)
end Go.Proofs.Ytbnbeailbhnbdaa
/-
  fits of a get.
-/
set_option linter.unusedVariables false
set_option linter.unusedSimpArgs false
namespace Go.Proofs.Ytbnbeailbhnbdaa
open Go.RowKit

theorem see_of_get {w' : World} {xs : List (List UInt8)} {A : Option Addr} {m c : Nat} {cells : List Value} {n0 base : Nat} (hm : m = xs.length) (ho : w'.ownsRow base 30 1 (.slice A m c) m cells) (hr : Recs (byRow (fun b => n0 ≤ b)) 1 w' xs cells) : RecSee (fun _ => True) xs A m c w' :=
  ⟨cells, hm.symm, (sees_own' ho).2.2.2, fun _ _ => trivial, hr.imp fun j x cs _ hR => by
    obtain ⟨A', c', e, ho', _⟩ := hR
    exact ⟨A', c', e, ho', fun _ _ => trivial⟩⟩
set_option maxHeartbeats 8000000 in
theorem fits_get {S : Nat → Prop} {g first : Nat} {l : List (List UInt8)} (c : CV) (data : List UInt8) (recs : List (List UInt8)) (w : World) (h : ModAt 61 S g first l w) (hf : first ≤ 140737488355328) (hl : l.length ≤ 4398046511104) (hlen : ∀ x ∈ l, x.length ≤ 140737488355328) (hc : CallSees c data recs w) (hk : c.kind ≠ 1) (hk3 : c.kind ≠ 3) :
    Calls Try.prog 32 #[.pointer (some ⟨g, 0, none⟩), c.val] w (RetFit S g (fitOK c recs first l || !c.ans) (fitF c first l) (fitL c data first l) w) := by
  obtain ⟨D, dc, R, nr, rc, T, e1, e2, e3, hs, hr⟩ := hc
  obtain ⟨c1, c2, c3, c4, c5, c6, c7, c8, c9, c10, c11, c12⟩ := c
  dsimp only at hk hk3 e1 e2
  subst e1 e2
  unfold CV.val CV.cells fitOK fitF fitL
  dsimp only
  rw [if_neg hk, if_neg hk3, if_neg hk3, if_neg hk, if_neg hk3]
  have b1 : (c4 == 1) = false := by simpa using hk
  have b3 : (c4 == 3) = false := by simpa using hk3
  have hal : Below w.heap.size w (w.alloc (.cells #[.int .i64 c1, .int .i64 c2, .int .i64 c3, .int .i64 c4, .int .i64 c5, .bool c6, .int .i64 c7, .int .i64 c8, .int .i64 c9, .int .i64 c10, .slice D data.length dc, .slice R nr rc] 62)) := (Below.refl w.heap.size w).alloc (Nat.le_refl _) _
  obtain ⟨W, hW⟩ : ∃ W, (w.alloc (.cells #[.int .i64 c1, .int .i64 c2, .int .i64 c3, .int .i64 c4, .int .i64 c5, .bool c6, .int .i64 c7, .int .i64 c8, .int .i64 c9, .int .i64 c10, .slice D data.length dc, .slice R nr rc] 62)) = W := ⟨_, rfl⟩
  rw [hW] at hal
  have k3 : W.cell? ⟨w.heap.size, 3, none⟩ = some (.int .i64 c4) := by rw [← hW]; simp
  have k5 : W.cell? ⟨w.heap.size, 5, none⟩ = some (.bool c6) := by rw [← hW]; simp
  have k6 : W.cell? ⟨w.heap.size, 6, none⟩ = some (.int .i64 c7) := by rw [← hW]; simp
  have k7 : W.cell? ⟨w.heap.size, 7, none⟩ = some (.int .i64 c8) := by rw [← hW]; simp
  have k8 : W.cell? ⟨w.heap.size, 8, none⟩ = some (.int .i64 c9) := by rw [← hW]; simp
  have k9 : W.cell? ⟨w.heap.size, 9, none⟩ = some (.int .i64 c10) := by rw [← hW]; simp
  have k11 : W.cell? ⟨w.heap.size, 11, none⟩ = some (.slice R nr rc) := by rw [← hW]; simp
  have HW := Lib.hid hW
  have HB := Lib.hid hal
  have HM : Hid (ModAt 61 (Cut S w) g first l W) := Lib.hid (h.cut.below hal)
  have HR : Hid (RecSee T recs R nr rc W) := Lib.hid (hr.below hal)
  have HL := Lib.hid hlen
  clear h hs hr hW hal hk hk3 hlen
  go_enter Try.func32, Try.ntmps32
  go_upto_region 2 with fail
  rw [HW.out]
  obtain ⟨bx, hbx⟩ : ∃ bx, w.heap.size = bx := ⟨_, rfl⟩
  rw [hbx] at k3 k5 k6 k7 k8 k9 k11 ⊢
  have HGET := Lib.hid (get_any c7 c8 W HM.out hf hl HL.out)
  clear hbx
  obtain ⟨xs, hxs⟩ : ∃ xs, getL c7 c8 first l = xs := ⟨_, rfl⟩
  obtain ⟨ok, hok⟩ : ∃ ok, getOK c7 first l.length = ok := ⟨_, rfl⟩
  rw [hxs, hok] at HGET
  go_upto_region 4 with (first
    | (go_at_call 15; refine HGET.out.mono ?_; rintro e w5 ⟨A5, m5, c5', cells5, rfl, rfl, ho5, hr5, hb5⟩)
    | fail)
  have HALL : Hid (∀ W', Below w5.heap.size w5 W' → W'.cell? ⟨bx, 8, none⟩ = some (.int .i64 c9) ∧ W'.cell? ⟨bx, 9, none⟩ = some (.int .i64 c10) ∧ W'.cell? ⟨bx, 11, none⟩ = some (.slice R nr rc) ∧ ModAt 61 (Cut S w) g first l W' ∧ RecSee (fun _ => True) xs A5 xs.length c5' W' ∧ RecSee T recs R nr rc W') := Lib.hid (by
    intro W' hb
    have hbb : Below W.heap.size W W' := below_step hb5 hb5.size hb
    exact ⟨(hbb.cell (World.block_lt_of_cell? _ _ k8)).trans k8, (hbb.cell (World.block_lt_of_cell? _ _ k9)).trans k9, (hbb.cell (World.block_lt_of_cell? _ _ k11)).trans k11, HM.out.below hbb, (see_of_get rfl ho5 hr5).below hb, HR.out.below hbb⟩)
  have m5 : w5.cell? ⟨bx, 5, none⟩ = some (.bool c6) := (hb5.cell (World.block_lt_of_cell? _ _ k5)).trans k5
  have HB5 := Lib.hid hb5
  have hxl : xs.length ≤ 140737488355328 := by
    rw [← hxs]
    unfold getL
    split
    · rw [List.length_take, List.length_drop]
      omega
    · exact Nat.zero_le _
  have HXS := Lib.hid hxs
  have HOK := Lib.hid hok
  clear hb5 ho5 hr5 k3 k5 k6 k7 k8 k9 k11 hxs hok HGET
  obtain ⟨bN, hN⟩ : ∃ bN, (c9 == ((first + l.length : Nat) : Int)) = bN := ⟨_, rfl⟩
  have hN2 : (c9 == (first : Int) + (l.length : Int)) = bN := by rw [← hN]; congr 1
  obtain ⟨bS, hS⟩ : ∃ bS, (c10 == (first : Int)) = bS := ⟨_, rfl⟩
  obtain ⟨bE, hE⟩ : ∃ bE, decide (xs = recs) = bE := ⟨_, rfl⟩
  have HV : Hid ((getOK c7 first l.length && (c9 == ((first + l.length : Nat) : Int) && (c10 == (first : Int) && decide (getL c7 c8 first l = recs)))) = (ok && (bN && (bS && bE)))) := Lib.hid (by
    rw [HOK.out, HXS.out, hN, hS, hE])
  have HEND : Hid (∀ W', Below w5.heap.size w5 W' → ModAt 61 (Plus S w) g first l W' ∧ Outside S w W') := Lib.hid (fun W' hb => ⟨(HALL.out W' hb).2.2.2.1.mono (fun b hb => .inl hb.1), Outside.of_below (below_step HB.out HB.out.size (below_step HB5.out HB5.out.size hb))⟩)
  have M5 := Lib.hid m5
  cases ok <;> cases bN <;> cases bS <;> cases bE
  all_goals
      refine wp_region_calm (Later w5) (by kernel_rfl) (by kernel_rfl) (Below.refl _ _).drew (fun hne => ?_)
      have c8' := fun p : InS (Later w5) => (HALL.out p.w p.h).1
      have c9' := fun p : InS (Later w5) => (HALL.out p.w p.h).2.1
      have c11' := fun p : InS (Later w5) => (HALL.out p.w p.h).2.2.1
      repeat (go_big_quiet_step (first
        | (go_at_call 19; exact calm_of (next_any _ (HALL.out _ (InS.h _)).2.2.2.1 hf (by omega)) (by rintro e w' ⟨rfl, hb⟩; exact ⟨rfl, later_step (InS.h _) hb⟩))
        | (go_at_call 18; exact calm_of (start_any _ (HALL.out _ (InS.h _)).2.2.2.1) (by rintro e w' ⟨rfl, rfl⟩; exact ⟨rfl, InS.h _⟩))
        | (go_at_call 50; exact calm_of (eqfunc_any _ (HALL.out _ (InS.h _)).2.2.2.2.1 (HALL.out _ (InS.h _)).2.2.2.2.2 hxl) (by rintro e w' ⟨rfl, rfl⟩; exact ⟨rfl, InS.h _⟩))
        | fail))
      refine wpQuiet_nil ?_
      rintro _ ⟨p, rfl⟩
      have m6 : p.w.cell? ⟨bx, 5, none⟩ = some (.bool c6) := (p.h.cell (World.block_lt_of_cell? _ _ m5)).trans m5
      go_wp2_with fail
      go_ret
      rw [HV.out]
      exact ⟨by simp, HEND.out _ p.h⟩
theorem fits_any {S : Nat → Prop} {g first : Nat} {l : List (List UInt8)} (c : CV) (data : List UInt8) (recs : List (List UInt8)) (w : World) (h : ModAt 61 S g first l w) (hf : first ≤ 140737488355328) (hl : l.length ≤ 4398046511104) (hlen : ∀ x ∈ l, x.length ≤ 140737488355328) (hd : data.length ≤ 140737488355328) (hc : CallSees c data recs w) :
    Calls Try.prog 32 #[.pointer (some ⟨g, 0, none⟩), c.val] w (RetFit S g (fitOK c recs first l || !c.ans) (fitF c first l) (fitL c data first l) w) := by
  by_cases h1 : c.kind = 1
  · exact fits_put c data recs w h hf hl hd hc h1
  · by_cases h3 : c.kind = 3
    · exact fits_trim c data recs w h hf hl hd hc h3
    · exact fits_get c data recs w h hf hl hlen hc h1 h3
end Go.Proofs.Ytbnbeailbhnbdaa
