/-
  Own: the calls in memory of their own.
-/
import Derived.Test.YtbnbeailbhnbdaaOwn1
set_option linter.unusedVariables false
set_option linter.unusedSimpArgs false
namespace Go.Proofs.Ytbnbeailbhnbdaa
open Go.RowKit

/-- A call that was handed in. -/
def CallR (W : World) (x : Full) (cs : List Value) : Prop :=
  cs = x.1.cells.toList ∧ (∃ D dc, x.1.dv = .slice D x.2.1.length dc ∧ x.2.1.length ≤ dc ∧ Sees W D (u8s x.2.1)) ∧ ∃ R rc, x.1.rv = .slice R x.2.2.length rc ∧ SeenR W R x.2.2
def SeenC (W : World) (A : Option Addr) (xs : List Full) : Prop := ∃ cells, Sees W A cells ∧ Recs (fun W x cs => CallR W x cs) 12 W xs cells
/-- How great they may be. -/
def Small (xs : List Full) : Prop := ∀ x ∈ xs, x.2.1.length ≤ 140737488351232 ∧ x.2.2.length * 24 ≤ 140737488351232 ∧ ∀ r ∈ x.2.2, r.length ≤ 140737488351232
theorem CallR.below {W W' : World} {x : Full} {cs : List Value} (h : CallR W x cs) (hb : Below W.heap.size W W') : CallR W' x cs := by
  obtain ⟨e, ⟨D, dc, h1, h2, h3⟩, R, rc, h4, h5⟩ := h
  exact ⟨e, ⟨D, dc, h1, h2, h3.below hb⟩, R, rc, h4, h5.below hb⟩
theorem SeenC.below {W W' : World} {A : Option Addr} {xs : List Full} (h : SeenC W A xs) (hb : Below W.heap.size W W') : SeenC W' A xs := by
  obtain ⟨cells, h1, css, h2, h3, h4⟩ := h
  exact ⟨cells, h1.below hb, css, h2, h3, fun j x cs hx hc => ⟨(h4 j x cs hx hc).1, (h4 j x cs hx hc).2.below hb⟩⟩
theorem SeenC.at {W : World} {A : Option Addr} {xs : List Full} (h : SeenC W A xs) {k : Nat} {x : Full} (hk : xs[k]? = some x) : ∃ ad, A = some ad ∧ (∀ j v, x.1.cells.toList[j]? = some v → W.cell? ((ad.add (k * 12)).add j) = some v) ∧
    (∃ D dc, x.1.dv = .slice D x.2.1.length dc ∧ x.2.1.length ≤ dc ∧ Sees W D (u8s x.2.1)) ∧ ∃ R rc, x.1.rv = .slice R x.2.2.length rc ∧ SeenR W R x.2.2 := by
  obtain ⟨cells, h1, h2⟩ := h
  obtain ⟨cs, _, ⟨e, h3, h4⟩, hcs⟩ := h2.get hk
  subst e
  obtain ⟨ad, ea, hc0⟩ := h1 (k * 12) _ (hcs 0 _ rfl)
  refine ⟨ad, ea, fun j v hj => ?_, h3, h4⟩
  obtain ⟨ad', e', hc⟩ := h1 (k * 12 + j) v (hcs j v hj)
  rw [ea] at e'
  cases e'
  rw [add_at]
  exact hc
theorem wpList_load_far {P : Program} {ops : Array Oper} {rest : List Oper} {op : Oper} {a : Act} {w : World} {Q : Exit → Act → World → Prop} (hgd : op.guard = none) (ty : TypeId) (x : Operand) (ho : op.op = .load ty x)
    (p : Addr) (hx : a.eval x = .pointer (some p)) (cs : List Value) (d : TypeDesc) (hc : ∀ j v, cs[j]? = some v → w.cell? (p.add j) = some v)
    (hu : P.underlying ty = some d) (hd : d.isRow = true) (hi : (P.info? ty).map (·.size) = some cs.length)
    (h : wpList P ops Q rest (a.put op.dst (.agg cs.toArray)) w) : wpList P ops Q (op :: rest) a w :=
  wpList_plain hgd fun _ hK => by
    have hl : (loadCells p cs.length).run P w = .ok cs.toArray w := run_loadCells_list (P := P) w p cs hc
    have hr : (loadVar ty p).run P w = .ok (.agg cs.toArray) w := by
      cases hq : P.info? ty with
      | none => simp [hq] at hi
      | some i =>
        have hs : i.size = cs.length := by simpa [hq] using hi
        have hagg : (isAgg ty).run P w = .ok true w := by
          unfold isAgg
          rw [Sem.run_bind, run_underlying hu w]
          cases d <;> simp_all
        simp [loadVar, Sem.run_bind, hagg, sizeOf, typeInfo, hq, hs, hl]
    unfold Oper.wp execOp
    simp only [ho, hx, Instr.loadAt, Instr.sureAddr, Sem.run_bind, Sem.run_pure, Result.andThen_ok, hr]
    exact hK _ _ h
theorem there_oneR (w : World) : (w.alloc (.cells zeros12 50)).there w.heap.size 0 12 :=
  there_of_block (cs := zeros12) (t := 50) (by show (w.heap.push _)[w.heap.size]? = _; simp) 12 rfl
theorem box_callR {c : CV} (w : World) : Below w.heap.size w ((w.alloc (.cells zeros12 50)).setCells w.heap.size 0 c.cells.toList) ∧ ((w.alloc (.cells zeros12 50)).setCells w.heap.size 0 c.cells.toList).rangeAt w.heap.size 0 c.cells.toList :=
  ⟨below_cells (Nat.le_refl _) _ _ _ ((Below.refl _ _).alloc (Nat.le_refl _) _), World.rangeAt_setCells_same _ _ _ _ (there_oneR w)⟩
/-- The same call, its data and records elsewhere. -/
def SameF (x y : Full) : Prop := y.2 = x.2 ∧ y.1 = { x.1 with dv := y.1.dv, rv := y.1.rv }
/-- A call's slices are the caller's own. -/
def OwnSees (n0 : Nat) (y : Full) (W : World) : Prop :=
  (∃ D dc, y.1.dv = .slice D y.2.1.length dc ∧ W.ownsRow n0 5 1 (.slice D y.2.1.length dc) y.2.1.length (u8s y.2.1)) ∧
  ∃ R rc cells, y.1.rv = .slice R y.2.2.length rc ∧ W.ownsRow n0 30 1 (.slice R y.2.2.length rc) y.2.2.length cells ∧ Recs (byRow (fun b => n0 ≤ b)) 1 W y.2.2 cells
theorem OwnSees.below {n0 : Nat} {y : Full} {W W' : World} (h : OwnSees n0 y W) (hb : Below W.heap.size W W') : OwnSees n0 y W' := by
  obtain ⟨⟨D, dc, h1, h2⟩, R, rc, cells, h3, h4, h5⟩ := h
  exact ⟨⟨D, dc, h1, own_keep h2 hb⟩, R, rc, cells, h3, own_keep h4 hb, recs_keep h5 hb⟩
theorem OwnSees.apart {n0 b k : Nat} {y : Full} {W W' : World} {v : Value} {xs : List Value} (h : OwnSees n0 y W) (ho : W.ownsRow b 62 12 v k xs) (hg : W.grownBy W' v.ownBlock) : OwnSees n0 y W' := by
  obtain ⟨⟨D, dc, h1, h2⟩, R, rc, cells, h3, h4, h5⟩ := h
  refine ⟨⟨D, dc, h1, own_apart h2 ho (by decide) hg⟩, R, rc, cells, h3, own_apart h4 ho (by decide) hg, h5.imp fun j x cs _ hR => ?_⟩
  obtain ⟨A', c', e, ho', hs'⟩ := hR
  exact ⟨A', c', e, own_apart ho' ho (by decide) hg, hs'⟩
theorem OwnSees.sees {n0 : Nat} {y : Full} {W : World} (h : OwnSees n0 y W) : CallSees y.1 y.2.1 y.2.2 W := by
  obtain ⟨⟨D, dc, h1, h2⟩, R, rc, cells, h3, h4, h5⟩ := h
  obtain ⟨_, h6, _, h7⟩ := sees_own' h2
  exact ⟨D, dc, R, _, rc, fun _ => True, h1, h3, h6, h7, see_of_get rfl h4 h5⟩
/-- The row of own calls, as far as it is made. -/
def OwnC (n0 : Nat) (xs : List Full) (k : Nat) (A : Option Addr) (c : Nat) (ys : List Full) (W : World) : Prop :=
  W.ownsRow n0 62 12 (.slice A k c) k ((ys.map fun y => y.1.cells.toList).flatten) ∧ ys.length = k ∧ (∀ (j : Nat) (x y : Full), xs[j]? = some x → ys[j]? = some y → SameF x y) ∧ ∀ y ∈ ys, OwnSees n0 y W
/-- What Own hands back. -/
def RetCalls (xs : List Full) (w : World) (e : Ending) (w' : World) : Prop :=
  ∃ A c gc ys, e = .returned (.slice A xs.length c) ∧ ys.length = xs.length ∧ (∀ (j : Nat) (x y : Full), xs[j]? = some x → ys[j]? = some y → SameF x y) ∧ FullsOf gc A ys xs.length w' ∧ gc ≤ w'.heap.size ∧ Below w.heap.size w w'
theorem calls_cells {ys : List Full} {k j : Nat} {y : Full} {v : Value} (hy : ys[k]? = some y) (hj : y.1.cells.toList[j]? = some v) : ((ys.map fun y => y.1.cells.toList).flatten)[k * 12 + j]? = some v :=
  flatten_get (sz := 12) (fun cs hcs => by obtain ⟨y, _, rfl⟩ := List.mem_map.1 hcs; rfl) k y.1.cells.toList (by rw [List.getElem?_map, hy]; rfl) j v hj
theorem OwnC.done {n0 k c : Nat} {xs ys : List Full} {A : Option Addr} {W w : World} (h : OwnC n0 xs k A c ys W) (hk : k = xs.length) (hn : w.heap.size = n0) (hb : Below n0 w W) : RetCalls xs w (.returned (.slice A k c)) W := by
  obtain ⟨h1, h2, h3, h4⟩ := h
  subst hk hn
  obtain ⟨_, _, _, hs⟩ := sees_own' h1
  have hgc : ∃ gc, gc ≤ W.heap.size ∧ (0 < xs.length → A = some ⟨gc, 0, none⟩) := by
    rcases h1.2 with ⟨e1, e2⟩ | ⟨g, cap, cur, hv, hg, hh, _⟩
    · exact ⟨0, Nat.zero_le _, fun h => by omega⟩
    · cases hv
      exact ⟨g, Nat.le_of_lt (Array.getElem?_eq_some_iff.1 hh).1, fun _ => rfl⟩
  obtain ⟨gc, hgc1, hgc2⟩ := hgc
  refine ⟨A, c, gc, ys, rfl, h2, h3, ⟨⟨by rw [cvs_length]; exact h2, hgc2, ?_, ?_⟩, fun y hy => (h4 y hy).sees⟩, hgc1, hb⟩
  · intro q d hd j v hj
    unfold cvs at hd
    rw [List.getElem?_map] at hd
    obtain ⟨y, hy, rfl⟩ := Option.map_eq_some_iff.1 hd
    have hql := (List.getElem?_eq_some_iff.1 hy).1
    obtain ⟨ad, e, hc⟩ := hs _ _ (calls_cells hy hj)
    rw [hgc2 (by omega)] at e
    cases e
    rw [add_base] at hc
    exact hc
  · intro d hd
    unfold cvs at hd
    obtain ⟨y, hy, rfl⟩ := List.mem_map.1 hd
    obtain ⟨⟨D, dc, e1, _⟩, R, rc, _, e2, _⟩ := h4 y hy
    exact ⟨by rw [e1]; rfl, by rw [e2]; rfl⟩
end Go.Proofs.Ytbnbeailbhnbdaa
