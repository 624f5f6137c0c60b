/-
  bytes: rows of bytes that were handed in, in memory of their own.
-/
import Derived.Test.YtbnbeailbhnbdaaKnow
import Derived.Deep.RegionHeld3
import Derived.Deep.CutBlock
import Derived.Deep.DeepCutAuto
set_option linter.unusedVariables false
set_option linter.unusedSimpArgs false
namespace Go.Proofs.Ytbnbeailbhnbdaa
open Go.RowKit

/-- Rows of bytes that were handed in. -/
def SeenR (W : World) (R : Option Addr) (xs : List (List UInt8)) : Prop := ∃ cells, Sees W R cells ∧ Recs (fun W bs cs => BytesR W bs cs) 1 W xs cells
theorem BytesR.below {W W' : World} {bs : List UInt8} {cs : List Value} (h : BytesR W bs cs) (hb : Below W.heap.size W W') : BytesR W' bs cs := by
  obtain ⟨A, c, e, h1, h2, h3⟩ := h
  exact ⟨A, c, e, h1, h2, h3.below hb⟩
theorem SeenR.below {W W' : World} {R : Option Addr} {xs : List (List UInt8)} (h : SeenR W R xs) (hb : Below W.heap.size W W') : SeenR W' R xs := by
  obtain ⟨cells, h1, css, h2, h3, h4⟩ := h
  exact ⟨cells, h1.below hb, css, h2, h3, fun j x cs hx hc => ⟨(h4 j x cs hx hc).1, (h4 j x cs hx hc).2.below hb⟩⟩
theorem SeenR.at {W : World} {R : Option Addr} {xs : List (List UInt8)} (h : SeenR W R xs) {k : Nat} (hk : k < xs.length) : ∃ ad A1 c1, R = some ad ∧ W.cell? (ad.add k) = some (.slice A1 xs[k].length c1) ∧ xs[k].length ≤ c1 ∧ Sees W A1 (u8s xs[k]) := by
  obtain ⟨cells, h1, h2⟩ := h
  obtain ⟨cs, _, ⟨A1, c1, rfl, h3, _, h4⟩, hcs⟩ := h2.get (List.getElem?_eq_getElem hk)
  have hu : cells[k]? = some (.slice A1 xs[k].length c1) := by simpa using hcs 0 _ rfl
  obtain ⟨ad, e, hc⟩ := h1 k _ hu
  exact ⟨ad, A1, c1, e, hc, h3, h4⟩
/-- New rows in a new row. -/
def RetRows (xs : List (List UInt8)) (w : World) (e : Ending) (w' : World) : Prop :=
  ∃ A m c cells, e = .returned (.slice A m c) ∧ m = xs.length ∧ w'.ownsRow w.heap.size 30 1 (.slice A m c) m cells ∧ Recs (byRow (fun b => w.heap.size ≤ b)) 1 w' xs cells ∧ Below w.heap.size w w'
def RowsOwn (n0 : Nat) (xs : List (List UInt8)) (k : Nat) (A : Option Addr) (c : Nat) (cells : List Value) (W : World) : Prop := W.ownsRow n0 30 1 (.slice A k c) k cells ∧ Recs (byRow (fun b => n0 ≤ b)) 1 W (xs.take k) cells
/-- One row more. -/
theorem rows_more {n0 k c c2 c4 q : Nat} {xs : List (List UInt8)} {A A2 A4 : Option Addr} {cells : List Value} {w wr w4 w5 : World} {x : List UInt8} (h : RowsOwn n0 xs k A c cells wr) (hx : xs[k]? = some x) (hq : x.length = q) (hb : Below n0 w wr) (hn0 : n0 ≤ wr.heap.size)
    (h4 : w4.ownsRow wr.heap.size 5 1 (.slice A4 q c4) q (u8s x)) (hb4 : Below wr.heap.size wr w4)
    (h5 : w5.ownsRow n0 30 1 (.slice A2 (k + 1) c2) (k + 1) (cells ++ [.slice A4 q c4])) (hg : (w4.alloc (.cells #[.slice A4 q c4] 30)).grownBy w5 (Value.slice A k c).ownBlock) :
    RowsOwn n0 xs (k + 1) A2 c2 (cells ++ [.slice A4 q c4]) w5 ∧ Below n0 w w5 := by
  subst hq
  have hal : Below w4.heap.size w4 (w4.alloc (.cells #[.slice A4 x.length c4] 30)) := (Below.refl _ _).alloc (Nat.le_refl _) _
  have hbal : Below wr.heap.size wr (w4.alloc (.cells #[.slice A4 x.length c4] 30)) := below_step hb4 hb4.size hal
  have ho1 : (w4.alloc (.cells #[.slice A4 x.length c4] 30)).ownsRow n0 30 1 (.slice A k c) k cells := own_keep h.1 hbal
  refine ⟨⟨h5, ?_⟩, below_grown_own (below_step hb hn0 hbal) (by have := hbal.size; omega) ho1 (Nat.le_refl _) hg⟩
  have hkl := (List.getElem?_eq_some_iff.1 hx).1
  have htk : xs.take (k + 1) = xs.take k ++ [x] := by rw [List.take_succ_eq_append_getElem hkl, (List.getElem?_eq_some_iff.1 hx).2]
  have hkeep : ∀ {b q : Nat} {v : Value} {ys : List Value}, (w4.alloc (.cells #[.slice A4 x.length c4] 30)).ownsRow b 5 1 v q ys → w5.ownsRow b 5 1 v q ys := fun h => own_apart h ho1 (by decide) hg
  rw [htk]
  refine (h.2.imp fun j y cs _ hR => ?_).snoc rfl ⟨A4, c4, rfl, own_lower (hkeep (own_keep h4 hal)) (Nat.zero_le _), fun z hz => by have := (own_block_ge h4 z hz).1; omega⟩
  obtain ⟨A', c', e, ho', hs'⟩ := hR
  exact ⟨A', c', e, hkeep (own_keep ho' hbal), hs'⟩
set_option maxHeartbeats 4000000 in
theorem bytes_any (R : Option Addr) (xs : List (List UInt8)) (m rc : Nat) (w : World) (h : SeenR w R xs) (hm : xs.length = m) (hm2 : m * 24 ≤ 140737488351232) (hl : ∀ x ∈ xs, x.length ≤ 140737488351232) :
    Calls Try.prog 33 #[.slice R m rc] w (RetRows xs w) := by
  have H := Lib.hid h
  have HM := Lib.hid hm
  have HL := Lib.hid hl
  clear h hm hl
  obtain ⟨n0, hn0⟩ : ∃ n0, w.heap.size = n0 := ⟨_, rfl⟩
  have HN0 := Lib.hid hn0
  go_enter Try.func33, Try.ntmps33
  go_wp2_with fail
  have rel0 : ∃ (k : Nat) (A : Option Addr) (c : Nat) (cells : List Value), Value.slice none 0 0 = .slice A k c ∧ Value.int .i64 0 = .int .i64 (k : Int) ∧ k ≤ m ∧ RowsOwn n0 xs k A c cells w ∧ Below n0 w w ∧ n0 ≤ w.heap.size :=
    ⟨0, none, 0, [], rfl, rfl, Nat.zero_le _, ⟨⟨rfl, .inl ⟨rfl, rfl⟩⟩, Recs.nil⟩, Below.refl _ _, by omega⟩
  have REL0 := Lib.hid rel0
  clear rel0 hn0
  go_loopw [3, 4] (fun s3 s4 wr => ∃ (k : Nat) (A : Option Addr) (c : Nat) (cells : List Value), s3 = .slice A k c ∧ s4 = .int .i64 (k : Int) ∧ k ≤ m ∧ RowsOwn n0 xs k A c cells wr ∧ Below n0 w wr ∧ n0 ≤ wr.heap.size) (fun _ s4 _ => m - (intOf s4).toNat)
  case atStart => exact REL0.out
  case round =>
    obtain ⟨k, A, c, cells, rfl, rfl, hk, hro, hb, hz⟩ := hrel
    have HRO := Lib.hid hro
    have HB := Lib.hid hb
    clear hro hb REL0
    by_cases hlt : k < m
    · have hki : (k : Int) < (m : Int) := by omega
      obtain ⟨ad, A1, c1, rfl, hc, hc1, hs1⟩ := (H.out.below (by rw [HN0.out]; exact HB.out)).at (k := k) (by rw [HM.out]; exact hlt)
      obtain ⟨x, hx⟩ : ∃ x, xs[k]'(by rw [HM.out]; exact hlt) = x := ⟨_, rfl⟩
      rw [hx] at hc hc1 hs1
      have hxm : xs[k]? = some x := by rw [List.getElem?_eq_getElem (by rw [HM.out]; exact hlt), hx]
      have hxl := HL.out x (List.mem_of_getElem? hxm)
      obtain ⟨q, hq⟩ : ∃ q, x.length = q := ⟨_, rfl⟩
      rw [hq] at hc hc1 hxl
      have HX := Lib.hid hxm
      have HQ := Lib.hid hq
      have HS1 := Lib.hid hs1
      have hc' : ∀ W', Below wr.heap.size wr W' → W'.cell? (ad.add k) = some (.slice A1 q c1) := fun W' hb => (hb.cell (World.block_lt_of_cell? _ _ hc)).trans hc
      have i4 := hc' _ ((Below.refl wr.heap.size wr).alloc (Nat.le_refl _) (.cells #[] 5))
      have HSE : Hid (Sees (wr.alloc (.cells #[] 5)) A1 (u8s x)) := Lib.hid (hs1.below ((Below.refl _ _).alloc (Nat.le_refl _) _))
      clear hxm hq hs1 hx hc'
      go_wp2_with (first
        | (at_builtin; refine wpList_append_sees rfl (.tmp 12) (.tmp 16) 30 rfl wr.heap.size 5 (.int .u8 0) 1 1 Try.underlying30 infoU8 rfl (by decide) (.slice (some ⟨wr.heap.size, 0, none⟩) 0 0) 0 [] rfl (own_made0 wr 5 1) A1 q c1 (u8s x) rfl (by simp [u8s, HQ.out]) HSE.out (u8s_one _) (by simp only [maxLen]; omega) (by omega) (by simp) ?_; intro A4 c4 w4 hown4 hg4 hat4; have hb4 := below_grown_own ((Below.refl wr.heap.size wr).alloc (Nat.le_refl _) (.cells #[] 5)) (by simp) (own_made0 wr 5 1) (Nat.le_refl _) hg4; have HOW4 := Lib.hid hown4; have HB4 := Lib.hid hb4; have e0 : 0 + q = q := Nat.zero_add _; rw [e0]; rw [e0] at HOW4; clear hown4 hg4 hat4 hb4 e0)
        | (at_builtin; refine wpList_append_sees rfl (.tmp 11) (.tmp 18) 26 rfl n0 30 (.slice none 0 0) 1 24 Try.underlying26 infoBytes rfl (by decide) (.slice A k c) k cells rfl (own_keep HRO.out.1 (below_step HB4.out HB4.out.size ((Below.refl _ _).alloc (Nat.le_refl _) _))) (some ⟨w4.heap.size, 0, none⟩) 1 1 [.slice A4 q c4] rfl rfl (sees_new _ _ _) (by simp [Value.oneCell']) (by simp only [maxLen]; omega) (by omega) (by have := HB4.out.size; simp; omega) ?_; intro A2 c2 w5 hown5 hg5 hat5; have HF := Lib.hid (rows_more HRO.out HX.out HQ.out HB.out hz (by simpa using HOW4.out) HB4.out hown5 hg5); have hz5 := hg5.size; clear hown5 hg5 hat5)
        | fail)
      go_roundw
      case rel =>
        refine ⟨k + 1, A2, c2, _, rfl, by go_num, hlt, HF.out.1, HF.out.2, ?_⟩
        have := HB4.out.size
        simp at hz5
        omega
      case measure => simp [intOf] <;> omega
    · have hki : ¬ (k : Int) < (m : Int) := by omega
      go_wp2_with fail
      go_ret
      have hkm : k = m := by omega
      refine ⟨A, k, c, cells, rfl, by rw [HM.out]; exact hkm, by rw [HN0.out]; exact HRO.out.1, ?_, by rw [HN0.out]; exact HB.out⟩
      have h2 := HRO.out.2
      rw [List.take_of_length_le (by rw [HM.out]; omega)] at h2
      rw [HN0.out]
      exact h2
end Go.Proofs.Ytbnbeailbhnbdaa
/-
  Own: the calls in memory of their own.
-/
set_option linter.unusedVariables false
set_option linter.unusedSimpArgs false
namespace Go.Proofs.Ytbnbeailbhnbdaa
open Go.RowKit

/-- A call that was handed in. -/
def CallR (W : World) (x : Full) (cs : List Value) : Prop :=
  cs = x.1.cells.toList ∧ (∃ D dc, x.1.dv = .slice D x.2.1.length dc ∧ x.2.1.length ≤ dc ∧ Sees W D (u8s x.2.1)) ∧ ∃ R rc, x.1.rv = .slice R x.2.2.length rc ∧ SeenR W R x.2.2
def SeenC (W : World) (A : Option Addr) (xs : List Full) : Prop := ∃ cells, Sees W A cells ∧ Recs (fun W x cs => CallR W x cs) 12 W xs cells
/-- How great they may be. -/
def Small (xs : List Full) : Prop := ∀ x ∈ xs, x.2.1.length ≤ 140737488351232 ∧ x.2.2.length * 24 ≤ 140737488351232 ∧ ∀ r ∈ x.2.2, r.length ≤ 140737488351232
theorem CallR.below {W W' : World} {x : Full} {cs : List Value} (h : CallR W x cs) (hb : Below W.heap.size W W') : CallR W' x cs := by
  obtain ⟨e, ⟨D, dc, h1, h2, h3⟩, R, rc, h4, h5⟩ := h
  exact ⟨e, ⟨D, dc, h1, h2, h3.below hb⟩, R, rc, h4, h5.below hb⟩
theorem SeenC.below {W W' : World} {A : Option Addr} {xs : List Full} (h : SeenC W A xs) (hb : Below W.heap.size W W') : SeenC W' A xs := by
  obtain ⟨cells, h1, css, h2, h3, h4⟩ := h
  exact ⟨cells, h1.below hb, css, h2, h3, fun j x cs hx hc => ⟨(h4 j x cs hx hc).1, (h4 j x cs hx hc).2.below hb⟩⟩
theorem SeenC.at {W : World} {A : Option Addr} {xs : List Full} (h : SeenC W A xs) {k : Nat} {x : Full} (hk : xs[k]? = some x) : ∃ ad, A = some ad ∧ (∀ j v, x.1.cells.toList[j]? = some v → W.cell? ((ad.add (k * 12)).add j) = some v) ∧
    (∃ D dc, x.1.dv = .slice D x.2.1.length dc ∧ x.2.1.length ≤ dc ∧ Sees W D (u8s x.2.1)) ∧ ∃ R rc, x.1.rv = .slice R x.2.2.length rc ∧ SeenR W R x.2.2 := by
  obtain ⟨cells, h1, h2⟩ := h
  obtain ⟨cs, _, ⟨e, h3, h4⟩, hcs⟩ := h2.get hk
  subst e
  obtain ⟨ad, ea, hc0⟩ := h1 (k * 12) _ (hcs 0 _ rfl)
  refine ⟨ad, ea, fun j v hj => ?_, h3, h4⟩
  obtain ⟨ad', e', hc⟩ := h1 (k * 12 + j) v (hcs j v hj)
  rw [ea] at e'
  cases e'
  rw [add_at]
  exact hc
theorem wpList_load_far {P : Program} {ops : Array Oper} {rest : List Oper} {op : Oper} {a : Act} {w : World} {Q : Exit → Act → World → Prop} (hgd : op.guard = none) (ty : TypeId) (x : Operand) (ho : op.op = .load ty x)
    (p : Addr) (hx : a.eval x = .pointer (some p)) (cs : List Value) (d : TypeDesc) (hc : ∀ j v, cs[j]? = some v → w.cell? (p.add j) = some v)
    (hu : P.underlying ty = some d) (hd : d.isRow = true) (hi : (P.info? ty).map (·.size) = some cs.length)
    (h : wpList P ops Q rest (a.put op.dst (.agg cs.toArray)) w) : wpList P ops Q (op :: rest) a w :=
  wpList_plain hgd fun _ hK => by
    have hl : (loadCells p cs.length).run P w = .ok cs.toArray w := run_loadCells_list (P := P) w p cs hc
    have hr : (loadVar ty p).run P w = .ok (.agg cs.toArray) w := by
      cases hq : P.info? ty with
      | none => simp [hq] at hi
      | some i =>
        have hs : i.size = cs.length := by simpa [hq] using hi
        have hagg : (isAgg ty).run P w = .ok true w := by
          unfold isAgg
          rw [Sem.run_bind, run_underlying hu w]
          cases d <;> simp_all
        simp [loadVar, Sem.run_bind, hagg, sizeOf, typeInfo, hq, hs, hl]
    unfold Oper.wp execOp
    simp only [ho, hx, Instr.loadAt, Instr.sureAddr, Sem.run_bind, Sem.run_pure, Result.andThen_ok, hr]
    exact hK _ _ h
theorem there_oneR (w : World) : (w.alloc (.cells zeros12 50)).there w.heap.size 0 12 :=
  there_of_block (cs := zeros12) (t := 50) (by show (w.heap.push _)[w.heap.size]? = _; simp) 12 rfl
theorem box_callR {c : CV} (w : World) : Below w.heap.size w ((w.alloc (.cells zeros12 50)).setCells w.heap.size 0 c.cells.toList) ∧ ((w.alloc (.cells zeros12 50)).setCells w.heap.size 0 c.cells.toList).rangeAt w.heap.size 0 c.cells.toList :=
  ⟨below_cells (Nat.le_refl _) _ _ _ ((Below.refl _ _).alloc (Nat.le_refl _) _), World.rangeAt_setCells_same _ _ _ _ (there_oneR w)⟩
/-- The same call, its data and records elsewhere. -/
def SameF (x y : Full) : Prop := y.2 = x.2 ∧ y.1 = { x.1 with dv := y.1.dv, rv := y.1.rv }
/-- A call's slices are the caller's own. -/
def OwnSees (n0 : Nat) (y : Full) (W : World) : Prop :=
  (∃ D dc, y.1.dv = .slice D y.2.1.length dc ∧ W.ownsRow n0 5 1 (.slice D y.2.1.length dc) y.2.1.length (u8s y.2.1)) ∧
  ∃ R rc cells, y.1.rv = .slice R y.2.2.length rc ∧ W.ownsRow n0 30 1 (.slice R y.2.2.length rc) y.2.2.length cells ∧ Recs (byRow (fun b => n0 ≤ b)) 1 W y.2.2 cells
theorem OwnSees.below {n0 : Nat} {y : Full} {W W' : World} (h : OwnSees n0 y W) (hb : Below W.heap.size W W') : OwnSees n0 y W' := by
  obtain ⟨⟨D, dc, h1, h2⟩, R, rc, cells, h3, h4, h5⟩ := h
  exact ⟨⟨D, dc, h1, own_keep h2 hb⟩, R, rc, cells, h3, own_keep h4 hb, recs_keep h5 hb⟩
theorem OwnSees.apart {n0 b k : Nat} {y : Full} {W W' : World} {v : Value} {xs : List Value} (h : OwnSees n0 y W) (ho : W.ownsRow b 62 12 v k xs) (hg : W.grownBy W' v.ownBlock) : OwnSees n0 y W' := by
  obtain ⟨⟨D, dc, h1, h2⟩, R, rc, cells, h3, h4, h5⟩ := h
  refine ⟨⟨D, dc, h1, own_apart h2 ho (by decide) hg⟩, R, rc, cells, h3, own_apart h4 ho (by decide) hg, h5.imp fun j x cs _ hR => ?_⟩
  obtain ⟨A', c', e, ho', hs'⟩ := hR
  exact ⟨A', c', e, own_apart ho' ho (by decide) hg, hs'⟩
theorem OwnSees.sees {n0 : Nat} {y : Full} {W : World} (h : OwnSees n0 y W) : CallSees y.1 y.2.1 y.2.2 W := by
  obtain ⟨⟨D, dc, h1, h2⟩, R, rc, cells, h3, h4, h5⟩ := h
  obtain ⟨_, h6, _, h7⟩ := sees_own' h2
  exact ⟨D, dc, R, _, rc, fun _ => True, h1, h3, h6, h7, see_of_get rfl h4 h5⟩
/-- The row of own calls, as far as it is made. -/
def OwnC (n0 : Nat) (xs : List Full) (k : Nat) (A : Option Addr) (c : Nat) (ys : List Full) (W : World) : Prop :=
  W.ownsRow n0 62 12 (.slice A k c) k ((ys.map fun y => y.1.cells.toList).flatten) ∧ ys.length = k ∧ (∀ (j : Nat) (x y : Full), xs[j]? = some x → ys[j]? = some y → SameF x y) ∧ ∀ y ∈ ys, OwnSees n0 y W
/-- What Own hands back. -/
def RetCalls (xs : List Full) (w : World) (e : Ending) (w' : World) : Prop :=
  ∃ A c gc ys, e = .returned (.slice A xs.length c) ∧ ys.length = xs.length ∧ (∀ (j : Nat) (x y : Full), xs[j]? = some x → ys[j]? = some y → SameF x y) ∧ FullsOf gc A ys xs.length w' ∧ gc ≤ w'.heap.size ∧ Below w.heap.size w w'
theorem calls_cells {ys : List Full} {k j : Nat} {y : Full} {v : Value} (hy : ys[k]? = some y) (hj : y.1.cells.toList[j]? = some v) : ((ys.map fun y => y.1.cells.toList).flatten)[k * 12 + j]? = some v :=
  flatten_get (sz := 12) (fun cs hcs => by obtain ⟨y, _, rfl⟩ := List.mem_map.1 hcs; rfl) k y.1.cells.toList (by rw [List.getElem?_map, hy]; rfl) j v hj
theorem OwnC.done {n0 k c : Nat} {xs ys : List Full} {A : Option Addr} {W w : World} (h : OwnC n0 xs k A c ys W) (hk : k = xs.length) (hn : w.heap.size = n0) (hb : Below n0 w W) : RetCalls xs w (.returned (.slice A k c)) W := by
  obtain ⟨h1, h2, h3, h4⟩ := h
  subst hk hn
  obtain ⟨_, _, _, hs⟩ := sees_own' h1
  have hgc : ∃ gc, gc ≤ W.heap.size ∧ (0 < xs.length → A = some ⟨gc, 0, none⟩) := by
    rcases h1.2 with ⟨e1, e2⟩ | ⟨g, cap, cur, hv, hg, hh, _⟩
    · exact ⟨0, Nat.zero_le _, fun h => by omega⟩
    · cases hv
      exact ⟨g, Nat.le_of_lt (Array.getElem?_eq_some_iff.1 hh).1, fun _ => rfl⟩
  obtain ⟨gc, hgc1, hgc2⟩ := hgc
  refine ⟨A, c, gc, ys, rfl, h2, h3, ⟨⟨by rw [cvs_length]; exact h2, hgc2, ?_, ?_⟩, fun y hy => (h4 y hy).sees⟩, hgc1, hb⟩
  · intro q d hd j v hj
    unfold cvs at hd
    rw [List.getElem?_map] at hd
    obtain ⟨y, hy, rfl⟩ := Option.map_eq_some_iff.1 hd
    have hql := (List.getElem?_eq_some_iff.1 hy).1
    obtain ⟨ad, e, hc⟩ := hs _ _ (calls_cells hy hj)
    rw [hgc2 (by omega)] at e
    cases e
    rw [add_base] at hc
    exact hc
  · intro d hd
    unfold cvs at hd
    obtain ⟨y, hy, rfl⟩ := List.mem_map.1 hd
    obtain ⟨⟨D, dc, e1, _⟩, R, rc, _, e2, _⟩ := h4 y hy
    exact ⟨by rw [e1]; rfl, by rw [e2]; rfl⟩
end Go.Proofs.Ytbnbeailbhnbdaa
/-
  Own: the walk.
-/
set_option linter.unusedVariables false
set_option linter.unusedSimpArgs false
namespace Go.Proofs.Ytbnbeailbhnbdaa
open Go.RowKit

theorem infoCall : (Try.prog.info? 62).map (fun i => (i.zero, i.size, i.bytes)) = some (some (.agg zeros12), 12, 128) := by kernel_rfl
/-- What the region has made: both slices. -/
def Made (n0 : Nat) (x : Full) (W : World) (d r : Value) (W' : World) : Prop := OwnSees n0 ({ x.1 with dv := d, rv := r }, x.2) W' ∧ Below W.heap.size W W'
theorem own_more {n0 k c c2 : Nat} {xs ys : List Full} {A A2 : Option Addr} {w wr W w5 w6 : World} {x : Full} {d r : Value} (h : OwnC n0 xs k A c ys wr) (hx : xs[k]? = some x) (hb : Below n0 w wr) (hn0 : n0 ≤ wr.heap.size) (hW : Below wr.heap.size wr W) {bx : Nat} (hbe : wr.heap.size = bx) (hm : Made bx x W d r w5)
    (h6 : w6.ownsRow n0 62 12 (.slice A2 (k + 1) c2) (k + 1) (((ys.map fun y => y.1.cells.toList).flatten) ++ ({ x.1 with dv := d, rv := r } : CV).cells.toList))
    (hg : (w5.alloc (.cells ({ x.1 with dv := d, rv := r } : CV).cells 62)).grownBy w6 (Value.slice A k c).ownBlock) :
    OwnC n0 xs (k + 1) A2 c2 (ys ++ [({ x.1 with dv := d, rv := r }, x.2)]) w6 ∧ Below n0 w w6 := by
  subst hbe
  obtain ⟨h1, h2, h3, h4⟩ := h
  have hal : Below w5.heap.size w5 (w5.alloc (.cells ({ x.1 with dv := d, rv := r } : CV).cells 62)) := (Below.refl _ _).alloc (Nat.le_refl _) _
  have hW5 : Below wr.heap.size wr w5 := below_step hW hW.size hm.2
  have hbal := below_step hW5 hW5.size hal
  have ho1 := own_keep h1 hbal
  refine ⟨⟨?_, by simp [h2], ?_, ?_⟩, below_grown_own (below_step hb hn0 hbal) (by have := hbal.size; omega) ho1 (Nat.le_refl _) hg⟩
  · simpa using h6
  · intro j a b ha hb'
    rcases Nat.lt_or_ge j k with hj | hj
    · rw [List.getElem?_append_left (by omega)] at hb'
      exact h3 j a b ha hb'
    · rw [List.getElem?_append_right (by omega)] at hb'
      have hjk : j = k := by
        have := (List.getElem?_eq_some_iff.1 hb').1
        simp at this
        omega
      subst hjk
      rw [h2, Nat.sub_self] at hb'
      cases hb'
      rw [hx] at ha
      cases ha
      exact ⟨rfl, rfl⟩
  · intro y hy
    rcases List.mem_append.1 hy with hy | hy
    · exact ((h4 y hy).below hbal).apart ho1 hg
    · rw [List.mem_singleton.1 hy]
      have h9 := (hm.1.below hal).apart ho1 hg
      obtain ⟨⟨D, dc, e1, q1⟩, R, rc, cells, e2, q2, q3⟩ := h9
      exact ⟨⟨D, dc, e1, own_lower q1 hn0⟩, R, rc, cells, e2, own_lower q2 hn0, q3.imp fun j x cs _ hR => by
        obtain ⟨A', c', e, ho', hs'⟩ := hR
        exact ⟨A', c', e, ho', fun b hb => Nat.le_trans hn0 (hs' b hb)⟩⟩
theorem made_of {bx q mR c4 c5 : Nat} {x : Full} {A4 A5 : Option Addr} {cells5 : List Value} {W W' : World} (hq : x.2.1.length = q) (hm : x.2.2.length = mR) (h4 : W'.ownsRow bx 5 1 (.slice A4 q c4) q (u8s x.2.1)) (h5 : W'.ownsRow bx 30 1 (.slice A5 mR c5) mR cells5) (hr : Recs (byRow (fun b => bx ≤ b)) 1 W' x.2.2 cells5) (hb : Below W.heap.size W W') :
    Made bx x W (.slice A4 q c4) (.slice A5 mR c5) W' := by
  subst hq hm
  exact ⟨⟨⟨A4, c4, rfl, h4⟩, A5, c5, cells5, rfl, h5, hr⟩, hb⟩
theorem recs_lower {a b : Nat} {W : World} {l : List (List UInt8)} {cells : List Value} (h : Recs (byRow (fun x => a ≤ x)) 1 W l cells) (hab : b ≤ a) : Recs (byRow (fun x => b ≤ x)) 1 W l cells := h.imp fun j x cs _ hl => by
  obtain ⟨A1, c1, e, ho, hs⟩ := hl
  exact ⟨A1, c1, e, ho, fun z hz => Nat.le_trans hab (hs z hz)⟩
set_option maxRecDepth 16384 in
set_option maxHeartbeats 8000000 in
theorem own_any (A : Option Addr) (xs : List Full) (m c : Nat) (w : World) (h : SeenC w A xs) (hm : xs.length = m) (hm2 : m * 128 ≤ 140737488351232) (hs : Small xs) :
    Calls Try.prog 22 #[.slice A m c] w (RetCalls xs w) := by
  have H := Lib.hid h
  have HM := Lib.hid hm
  have HS := Lib.hid hs
  clear h hm hs
  obtain ⟨n0, hn0⟩ : ∃ n0, w.heap.size = n0 := ⟨_, rfl⟩
  have HN0 := Lib.hid hn0
  go_enter Try.func22, Try.ntmps22
  go_wp2_with fail
  have rel0 : ∃ (k : Nat) (A3 : Option Addr) (c3 : Nat) (ys : List Full), Value.slice none 0 0 = .slice A3 k c3 ∧ Value.int .i64 0 = .int .i64 (k : Int) ∧ k ≤ m ∧ OwnC n0 xs k A3 c3 ys w ∧ Below n0 w w ∧ n0 ≤ w.heap.size :=
    ⟨0, none, 0, [], rfl, rfl, Nat.zero_le _, ⟨⟨rfl, .inl ⟨rfl, rfl⟩⟩, rfl, fun j x y hx hy => by simp at hy, fun y hy => by cases hy⟩, Below.refl _ _, by omega⟩
  have REL0 := Lib.hid rel0
  clear rel0 hn0
  go_loopw [3, 4] (fun s3 s4 wr => ∃ (k : Nat) (A3 : Option Addr) (c3 : Nat) (ys : List Full), s3 = .slice A3 k c3 ∧ s4 = .int .i64 (k : Int) ∧ k ≤ m ∧ OwnC n0 xs k A3 c3 ys wr ∧ Below n0 w wr ∧ n0 ≤ wr.heap.size) (fun _ s4 _ => m - (intOf s4).toNat)
  case atStart => exact REL0.out
  case round =>
    obtain ⟨k, A3, c3, ys, rfl, rfl, hk, hro, hb, hz⟩ := hrel
    have HRO := Lib.hid hro
    have HB := Lib.hid hb
    clear hro hb REL0
    by_cases hlt : k < m
    · have hki : (k : Int) < (m : Int) := by omega
      obtain ⟨x, hx⟩ : ∃ x, xs[k]? = some x := ⟨_, List.getElem?_eq_getElem (by rw [HM.out]; exact hlt)⟩
      obtain ⟨ad, rfl, hcs, ⟨D, dc, e1, e2, e3⟩, R, rc, e4, e5⟩ := (H.out.below (by rw [HN0.out]; exact HB.out)).at hx
      obtain ⟨s1, s2, s3⟩ := HS.out x (List.mem_of_getElem? hx)
      obtain ⟨⟨c1, c2, c3', c4, c5, c6, c7, c8, c9, c10, dv, rv⟩, bs, rs⟩ := x
      dsimp only at e1 e2 e3 e4 e5 s1 s2 s3 hcs
      subst e1 e4
      obtain ⟨q, hq⟩ : ∃ q, bs.length = q := ⟨_, rfl⟩
      obtain ⟨mR, hmR⟩ : ∃ mR, rs.length = mR := ⟨_, rfl⟩
      rw [hq] at e2 s1
      rw [hmR] at s2
      have hca : (⟨c1, c2, c3', c4, c5, c6, c7, c8, c9, c10, .slice D bs.length dc, .slice R rs.length rc⟩ : CV).cells.toList = [.int .i64 c1, .int .i64 c2, .int .i64 c3', .int .i64 c4, .int .i64 c5, .bool c6, .int .i64 c7, .int .i64 c8, .int .i64 c9, .int .i64 c10, .slice D q dc, .slice R mR rc] := by rw [hq, hmR]; rfl
      rw [hca] at hcs
      have hia : (Try.prog.info? 50).map (·.size) = some 12 := by kernel_rfl
      obtain ⟨hbx, hrx⟩ := box_callR (c := ⟨c1, c2, c3', c4, c5, c6, c7, c8, c9, c10, .slice D bs.length dc, .slice R rs.length rc⟩) wr
      rw [hca] at hbx hrx
      obtain ⟨ca, hcae⟩ : ∃ ca : List Value, [.int .i64 c1, .int .i64 c2, .int .i64 c3', .int .i64 c4, .int .i64 c5, .bool c6, .int .i64 c7, .int .i64 c8, .int .i64 c9, .int .i64 c10, .slice D q dc, .slice R mR rc] = ca := ⟨_, rfl⟩
      obtain ⟨W, hW⟩ : ∃ W, ((wr.alloc (.cells zeros12 50)).setCells wr.heap.size 0 ca) = W := ⟨_, rfl⟩
      rw [hcae, hW] at hbx hrx
      rw [hcae] at hcs
      have la : ca.length = 12 := by rw [← hcae]; rfl
      obtain ⟨bx, hbxe⟩ : ∃ bx, wr.heap.size = bx := ⟨_, rfl⟩
      rw [hbxe] at hrx
      have hone : ca.toArray.all (·.oneCell') = true := by rw [← hcae]; simp [Value.oneCell']
      have HOX : Hid (∀ W', Below W.heap.size W W' → W'.cell? ⟨bx, 0, none⟩ = some (.int .i64 c1) ∧ W'.cell? ⟨bx, 1, none⟩ = some (.int .i64 c2) ∧ W'.cell? ⟨bx, 2, none⟩ = some (.int .i64 c3') ∧ W'.cell? ⟨bx, 3, none⟩ = some (.int .i64 c4) ∧ W'.cell? ⟨bx, 4, none⟩ = some (.int .i64 c5) ∧ W'.cell? ⟨bx, 5, none⟩ = some (.bool c6) ∧ W'.cell? ⟨bx, 6, none⟩ = some (.int .i64 c7) ∧ W'.cell? ⟨bx, 7, none⟩ = some (.int .i64 c8) ∧ W'.cell? ⟨bx, 8, none⟩ = some (.int .i64 c9) ∧ W'.cell? ⟨bx, 9, none⟩ = some (.int .i64 c10) ∧ W'.cell? ⟨bx, 10, none⟩ = some (.slice D q dc) ∧ W'.cell? ⟨bx, 11, none⟩ = some (.slice R mR rc)) := Lib.hid (by
        intro W' hb'
        have hk : ∀ j v, ca[j]? = some v → W'.cell? ⟨bx, j, none⟩ = some v := fun j v hj => by
          have h9 := hrx j v hj
          rw [Nat.zero_add] at h9
          exact (hb'.cell (World.block_lt_of_cell? _ _ h9)).trans h9
        rw [← hcae] at hk
        exact ⟨hk 0 _ rfl, hk 1 _ rfl, hk 2 _ rfl, hk 3 _ rfl, hk 4 _ rfl, hk 5 _ rfl, hk 6 _ rfl, hk 7 _ rfl, hk 8 _ rfl, hk 9 _ rfl, hk 10 _ rfl, hk 11 _ rfl⟩)
      have HOY : Hid (∀ (W' W'' : World), Below W.heap.size W W' → W''.heap[bx]? = W'.heap[bx]? → W''.cell? ⟨bx, 0, none⟩ = some (.int .i64 c1) ∧ W''.cell? ⟨bx, 1, none⟩ = some (.int .i64 c2) ∧ W''.cell? ⟨bx, 2, none⟩ = some (.int .i64 c3') ∧ W''.cell? ⟨bx, 3, none⟩ = some (.int .i64 c4) ∧ W''.cell? ⟨bx, 4, none⟩ = some (.int .i64 c5) ∧ W''.cell? ⟨bx, 5, none⟩ = some (.bool c6) ∧ W''.cell? ⟨bx, 6, none⟩ = some (.int .i64 c7) ∧ W''.cell? ⟨bx, 7, none⟩ = some (.int .i64 c8) ∧ W''.cell? ⟨bx, 8, none⟩ = some (.int .i64 c9) ∧ W''.cell? ⟨bx, 9, none⟩ = some (.int .i64 c10) ∧ W''.cell? ⟨bx, 10, none⟩ = some (.slice D q dc) ∧ W''.cell? ⟨bx, 11, none⟩ = some (.slice R mR rc)) := Lib.hid (by
        intro W' W'' hb' hk'
        obtain ⟨k0, k1, k2, k3, k4, k5, k6, k7, k8, k9, k10, k11⟩ := HOX.out W' hb'
        have hh : ∀ j, W''.cell? ⟨bx, j, none⟩ = W'.cell? ⟨bx, j, none⟩ := fun j => World.cell?_of_block hk'
        exact ⟨(hh 0).trans k0, (hh 1).trans k1, (hh 2).trans k2, (hh 3).trans k3, (hh 4).trans k4, (hh 5).trans k5, (hh 6).trans k6, (hh 7).trans k7, (hh 8).trans k8, (hh 9).trans k9, (hh 10).trans k10, (hh 11).trans k11⟩)
      have HX := Lib.hid hx
      have HCS := Lib.hid hcs
      have HONE := Lib.hid hone
      have HIA := Lib.hid hia
      have HBX := Lib.hid hbx
      have HWW := Lib.hid hW
      have HBE := Lib.hid hbxe
      have HSD := Lib.hid (e3.below hbx)
      have HSR := Lib.hid (e5.below hbx)
      have HLA := Lib.hid la
      have HQ := Lib.hid hq
      have HMR := Lib.hid hmR
      have HS3 := Lib.hid s3
      have HCE := Lib.hid hcae
      have hbW : bx ≤ W.heap.size := by rw [← hbxe]; exact hbx.size
      have hbW2 : bx < W.heap.size := by have h9 := World.block_lt_of_cell? _ _ (HOX.out W (Below.refl _ _)).1; exact h9
      clear hx hcs hone hia hbx hrx hW hbxe e3 e5 la hq hmR hca hcae s3
      go_upto_region 6 with (first
        | (refine wpList_load_far rfl 50 _ rfl (ad.add (k * 12)) rfl ca _ HCS.out Try.underlying50 rfl (by rw [HLA.out]; exact HIA.out) ?_)
        | (refine wpList_store_mid rfl 50 _ _ rfl wr.heap.size 0 ca.toArray rfl rfl (by show World.there _ _ 0 ca.length; rw [HLA.out]; exact there_oneR wr) (by show _ = some ca.length; rw [HLA.out]; exact HIA.out) HONE.out ?_)
        | fail)
      have hWW := HWW.out
      unfold zeros12 at hWW
      try rw [hWW]
      try rw [HBE.out]
      clear hWW
      have b0 : Below W.heap.size W W.drew := (Below.refl _ _).drew
      have b1 : Below W.heap.size W (W.alloc (.cells #[] 5)).drew := ((Below.refl _ _).alloc (Nat.le_refl _) _).drew
      have hb1' : Below W.heap.size W (W.alloc (.cells #[] 5)) := (Below.refl _ _).alloc (Nat.le_refl _) _
      have HBY : Hid (∀ W', Below W.heap.size W W' → Calls Try.prog 33 #[.slice R mR rc] W' (RetRows rs W')) := Lib.hid (fun W' hb => bytes_any R rs mR rc W' (HSR.out.below hb) HMR.out s2 HS3.out)
      have HDS : Hid (∀ W', Below W.heap.size W W' → Sees W' D (u8s bs)) := Lib.hid (fun W' hb => HSD.out.below hb)
      go_region_held3 (fun W' => W'.cell? ⟨bx, 0, none⟩ = some (.int .i64 c1) ∧ W'.cell? ⟨bx, 1, none⟩ = some (.int .i64 c2) ∧ W'.cell? ⟨bx, 2, none⟩ = some (.int .i64 c3') ∧ W'.cell? ⟨bx, 3, none⟩ = some (.int .i64 c4) ∧ W'.cell? ⟨bx, 4, none⟩ = some (.int .i64 c5) ∧ W'.cell? ⟨bx, 5, none⟩ = some (.bool c6) ∧ W'.cell? ⟨bx, 6, none⟩ = some (.int .i64 c7) ∧ W'.cell? ⟨bx, 7, none⟩ = some (.int .i64 c8) ∧ W'.cell? ⟨bx, 8, none⟩ = some (.int .i64 c9) ∧ W'.cell? ⟨bx, 9, none⟩ = some (.int .i64 c10) ∧ W'.cell? ⟨bx, 10, none⟩ = some (.slice D q dc) ∧ W'.cell? ⟨bx, 11, none⟩ = some (.slice R mR rc))
        (first
          | (refine HOX.out _ ?_; assumption)
          | exact S6
          | fail)
        (first
          | (refine step_append_sees rfl (.tmp 37) (.tmp 39) 30 (by rfl) W.heap.size 5 (.int .u8 0) 1 1 Try.underlying30 infoU8 rfl (by decide) (.slice (some ⟨W.heap.size, 0, none⟩) 0 0) 0 [] (by rfl) (by exact own_made0 W _ 1) D q dc (u8s bs) (by rfl) (by simp [u8s, HQ.out]) (by exact HDS.out _ b1) (u8s_one _) (by simp only [maxLen]; omega) (by omega) (by simp) ?_; intro A4 c4' w4 hown4' hg4 hat4; have b4 : Below W.heap.size W w4 := below_grown_own b1 (by simp) (own_made0 W 5 1) (Nat.le_refl _) hg4; have e0 : 0 + q = q := Nat.zero_add _; rw [e0]; have HO4 := Lib.hid hown4'; rw [e0] at HO4; clear hown4' hg4 hat4 e0)
          | (have hx := HO4; go_simp; go_at_call 33; refine (HBY.out _ b4).mono ?_; rintro e w5 ⟨A5, m5, c5', cells5, rfl, hm5, ho5, hr5, hb5⟩; obtain rfl : m5 = mR := (hm5.trans HMR.out); have b5 : Below W.heap.size W w5 := below_step b4 b4.size hb5; have HMD := Lib.hid (made_of (x := (⟨c1, c2, c3', c4, c5, c6, c7, c8, c9, c10, .slice D q dc, .slice R m5 rc⟩, bs, rs)) HQ.out HMR.out (own_lower (own_keep (by simpa using HO4.out) hb5) hbW) (own_lower ho5 (Nat.le_trans hbW b4.size)) (recs_lower hr5 (Nat.le_trans hbW b4.size)) b5); have bA := b5.alloc b5.size (.cells #[.int .i64 c1, .int .i64 c2, .int .i64 c3', .int .i64 c4, .int .i64 c5, .bool c6, .int .i64 c7, .int .i64 c8, .int .i64 c9, .int .i64 c10, .slice A4 q c4', .slice A5 m5 c5'] 62); clear hm5 ho5 hr5 hb5)
          | (have hx := HMD; refine step_append_sees rfl (.tmp 16) (.tmp 45) 45 (by rfl) n0 62 (.agg zeros12) 12 128 Try.underlying45 infoCall rfl (by decide) (.slice A3 k c3) k ((ys.map fun y => y.1.cells.toList).flatten) (by rfl) (by exact own_keep HRO.out.1 (below_step HBX.out HBX.out.size bA)) (some ⟨w5.heap.size, 0, none⟩) 1 1 [.int .i64 c1, .int .i64 c2, .int .i64 c3', .int .i64 c4, .int .i64 c5, .bool c6, .int .i64 c7, .int .i64 c8, .int .i64 c9, .int .i64 c10, .slice A4 q c4', .slice A5 m5 c5'] (by rfl) (by rfl) (by exact sees_new _ _ _) (by simp [Value.oneCell']) (by simp only [maxLen]; omega) (by omega) (by have := bA.size; have := HBX.out.size; omega) ?_; intro A6 c6' w6 hown6 hg6 hat6; have HFIN := Lib.hid (own_more HRO.out HX.out HB.out hz HBX.out HBE.out HMD.out hown6 hg6); have S6 := HOY.out _ w6 bA (hg6.block bx (by have := bA.size; omega) (fun e => by have := (own_block_ge HRO.out.1 bx e.symm).2; have := HBE.out; omega)); have b6z := hg6.size; clear hown6 hg6 hat6)
          | fail)
      go_wp2_with fail
      go_roundw
      case rel => exact ⟨k + 1, A6, c6', _, rfl, by go_num, hlt, HFIN.out.1, HFIN.out.2, by have := bA.size; have := HBX.out.size; omega⟩
      case measure => simp [intOf] <;> omega
    · have hki : ¬ (k : Int) < (m : Int) := by omega
      go_wp2_with fail
      go_ret
      have hkm : k = m := by omega
      have h9 := HRO.out.done (w := w) (by rw [HM.out]; exact hkm) HN0.out HB.out
      exact h9
end Go.Proofs.Ytbnbeailbhnbdaa
