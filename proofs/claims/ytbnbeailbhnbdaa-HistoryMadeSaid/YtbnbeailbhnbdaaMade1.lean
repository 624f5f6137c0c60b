/-
  HistoryMade: what is made, call by call.
-/
import Derived.Test.YtbnbeailbhnbdaaMadeP
import Derived.Test.YtbnbeailbhnbdaaMadeR
import Derived.Test.YtbnbeailbhnbdaaBoxC
import Derived.Laws.OwnMore
set_option linter.unusedVariables false
set_option linter.unusedSimpArgs false
namespace Go.Proofs.Ytbnbeailbhnbdaa
open Go.RowKit

abbrev TM : TypeId := 28
/-- What a call's slices show: its data lies outside, its records in a row of its own. -/
def RSee (w0 : World) (T : Nat → Prop) (y : Full) (W : World) : Prop :=
  (∃ D dc, y.1.dv = .slice D y.2.1.length dc ∧ y.2.1.length ≤ dc ∧ Sees w0 D (u8s y.2.1)) ∧
  ∃ R rc cells, y.1.rv = .slice R y.2.2.length rc ∧ W.ownsRow w0.heap.size 30 1 (.slice R y.2.2.length rc) y.2.2.length cells ∧ (∀ b, (Value.slice R y.2.2.length rc).ownBlock = some b → ¬ T b) ∧ Recs (byRow (fun b => w0.heap.size ≤ b)) 1 W y.2.2 cells
/-- Calls, order and model. -/
structure MadeI (w0 : World) (xs : List Full) (gr f : Nat) (l : List (List UInt8)) (A3 : Option Addr) (c3 : Nat) (A4 : Option Addr) (c4 : Nat) (T : Nat → Prop) (ys : List Full) (W : World) : Prop where
  row : W.ownsRow w0.heap.size TC 12 (.slice A3 xs.length c3) xs.length ((ys.map fun y => y.1.cells.toList).flatten)
  len : ys.length = xs.length
  same : ∀ (j : Nat) (x y : Full), xs[j]? = some x → ys[j]? = some y → SameF x y
  see : ∀ y ∈ ys, RSee w0 T y W
  far3 : ∀ b, (Value.slice A3 xs.length c3).ownBlock = some b → ¬ T b
  mdl : ModAt TM T gr f l W
  low : ∀ b, T b → w0.heap.size ≤ b ∧ b < W.heap.size
  bel : Below w0.heap.size w0 W
/-- The order's row. -/
structure OrdI (w0 : World) (k : Nat) (A4 : Option Addr) (c4 : Nat) (T : Nat → Prop) (W : World) : Prop where
  row : W.ownsRow w0.heap.size 3 1 (.slice A4 k c4) k ((upTo k).map i64v)
  far : ∀ b, (Value.slice A4 k c4).ownBlock = some b → ¬ T b
section
variable {w0 W W' : World} {xs ys : List Full} {gr f c3 c4 k : Nat} {l : List (List UInt8)} {A3 A4 : Option Addr} {T : Nat → Prop} {y : Full}
theorem RSee.below (h : RSee w0 T y W) (hb : Below W.heap.size W W') : RSee w0 T y W' := by
  obtain ⟨h1, R, rc, cells, h2, h3, h4, h5⟩ := h
  exact ⟨h1, R, rc, cells, h2, own_keep h3 hb, h4, recs_keep h5 hb⟩
theorem MadeI.below (h : MadeI w0 xs gr f l A3 c3 A4 c4 T ys W) (hb : Below W.heap.size W W') : MadeI w0 xs gr f l A3 c3 A4 c4 T ys W' :=
  ⟨own_keep h.row hb, h.len, h.same, fun y hy => (h.see y hy).below hb, h.far3, h.mdl.below hb, fun b hT => ⟨(h.low b hT).1, Nat.lt_of_lt_of_le (h.low b hT).2 hb.size⟩, below_step h.bel h.bel.size hb⟩
theorem OrdI.below (h : OrdI w0 k A4 c4 T W) (hb : Below W.heap.size W W') : OrdI w0 k A4 c4 T W' := ⟨own_keep h.row hb, h.far⟩
/-- Behind a step of the model. -/
theorem RSee.step (h : RSee w0 T y W) (ho : Outside (fun b => T b ∧ ¬ IsU8 W b) W W') : RSee w0 (Cut (Plus T W) W') y W' := by
  obtain ⟨h1, R, rc, cells, h2, h3, h4, h5⟩ := h
  refine ⟨h1, R, rc, cells, h2, own_same h3 (fun b hb => ho.block b (own_block_ge h3 b hb).2 (fun hs => h4 b hb hs.1)), fun b hb hT => ?_, h5.imp fun j x cs _ hl => ?_⟩
  · rcases hT.1 with h | h
    · exact h4 b hb h
    · have := (own_block_ge h3 b hb).2
      omega
  · obtain ⟨A1, c1, e, ho1, hs⟩ := hl
    refine ⟨A1, c1, e, own_same ho1 (fun b hb => ho.block b (own_block_ge ho1 b hb).2 (fun hs => hs.2 ?_)), hs⟩
    rcases ho1.2 with ⟨e1, _⟩ | ⟨g, cap, cur, hv, _, hh, _⟩
    · rw [e1] at hb
      simp [Value.ownBlock] at hb
    · rw [hv] at hb
      simp only [Value.ownBlock, Option.some.injEq] at hb
      subst hb
      exact ⟨cur, hh⟩
theorem MadeI.step {f' : Nat} {l' : List (List UInt8)} (h : MadeI w0 xs gr f l A3 c3 A4 c4 T ys W) (hm : ModAt TM (Plus T W) gr f' l' W') (ho : Outside (fun b => T b ∧ ¬ IsU8 W b) W W') : MadeI w0 xs gr f' l' A3 c3 A4 c4 (Cut (Plus T W) W') ys W' := by
  refine ⟨own_same h.row (fun b hb => ho.block b (own_block_ge h.row b hb).2 (fun hs => h.far3 b hb hs.1)), h.len, h.same, fun y hy => (h.see y hy).step ho, fun b hb hT => ?_, hm.cut, fun b hT => ⟨?_, hT.2⟩, h.bel.trans (ho.below (fun b hb => (h.low b hb.1).1) h.bel.size)⟩
  · rcases hT.1 with h9 | h9
    · exact h.far3 b hb h9
    · have := (own_block_ge h.row b hb).2
      omega
  · rcases hT.1 with h9 | h9
    · exact (h.low b h9).1
    · exact Nat.le_trans h.bel.size h9
theorem OrdI.step (h : OrdI w0 k A4 c4 T W) (ho : Outside (fun b => T b ∧ ¬ IsU8 W b) W W') : OrdI w0 k A4 c4 (Cut (Plus T W) W') W' := by
  refine ⟨own_same h.row (fun b hb => ho.block b (own_block_ge h.row b hb).2 (fun hs => h.far b hb hs.1)), fun b hb hT => ?_⟩
  rcases hT.1 with h9 | h9
  · exact h.far b hb h9
  · have := (own_block_ge h.row b hb).2
    omega
/-- A row of another type grows. -/
theorem RSee.apart {b q s : Nat} {t : TypeId} {v : Value} {vs : List Value} (h : RSee w0 T y W) (ho : W.ownsRow b t s v q vs) (h1 : 5 ≠ t) (h2 : 30 ≠ t) (hg : W.grownBy W' v.ownBlock) : RSee w0 T y W' := by
  obtain ⟨k1, R, rc, cells, k2, k3, k4, k5⟩ := h
  refine ⟨k1, R, rc, cells, k2, own_apart k3 ho h2 hg, k4, k5.imp fun j x cs _ hR => ?_⟩
  obtain ⟨A', c', e, ho', hs'⟩ := hR
  exact ⟨A', c', e, own_apart ho' ho h1 hg, hs'⟩
theorem mod_grown {S : Nat → Prop} {row : Option Nat} (h : ModAt TM S gr f l W) (hg : W.grownBy W' row) (hne : ∀ r, row = some r → ¬ S r) : ModAt TM S gr f l W' := h.keep fun b hlt hs => hg.block b hlt (fun e => hne b e.symm hs)
/-- A call more. -/
theorem MadeI.more {A6 : Option Addr} {c6 : Nat} {x : Full} (h : MadeI w0 xs gr f l A3 c3 A4 c4 T ys W) (hx : SameF x y) (hy : RSee w0 T y W)
    (ho : W'.ownsRow w0.heap.size TC 12 (.slice A6 (xs.length + 1) c6) (xs.length + 1) (((ys.map fun y => y.1.cells.toList).flatten) ++ y.1.cells.toList)) (hg : W.grownBy W' (Value.slice A3 xs.length c3).ownBlock)
    (hat : (Value.slice A6 (xs.length + 1) c6).ownBlock = (Value.slice A3 xs.length c3).ownBlock ∨ (Value.slice A6 (xs.length + 1) c6).ownBlock = some W.heap.size) : MadeI w0 (xs ++ [x]) gr f l A6 c6 A4 c4 T (ys ++ [y]) W' := by
  have hl : (xs ++ [x]).length = xs.length + 1 := by simp
  refine ⟨?_, by simp [h.len], ?_, ?_, ?_, mod_grown h.mdl hg h.far3, fun b hT => ⟨(h.low b hT).1, Nat.lt_of_lt_of_le (h.low b hT).2 hg.size⟩, h.bel.grown hg h.bel.size (fun k hk => (own_block_ge h.row k hk).1)⟩
  · rw [hl]
    simpa using ho
  · intro j a b ha hb'
    rcases Nat.lt_or_ge j xs.length with hj | hj
    · rw [List.getElem?_append_left hj] at ha
      rw [List.getElem?_append_left (by rw [h.len]; exact hj)] at hb'
      exact h.same j a b ha hb'
    · have hjk : j = xs.length := by
        have := (List.getElem?_eq_some_iff.1 ha).1
        rw [hl] at this
        omega
      subst hjk
      rw [List.getElem?_append_right (Nat.le_refl _), Nat.sub_self] at ha
      rw [List.getElem?_append_right (by rw [h.len]; exact Nat.le_refl _), h.len, Nat.sub_self] at hb'
      cases ha
      cases hb'
      exact hx
  · intro z hz
    rcases List.mem_append.1 hz with hz | hz
    · exact (h.see z hz).apart h.row (by decide) (by decide) hg
    · rw [List.mem_singleton.1 hz]
      exact hy.apart h.row (by decide) (by decide) hg
  · intro b hb hT
    rw [hl] at hb
    rcases hat with h9 | h9
    · exact h.far3 b (by rw [← h9]; exact hb) hT
    · rw [h9] at hb
      have := Option.some.inj hb
      have := (h.low b hT).2
      omega
theorem OrdI.grown {b q s : Nat} {t : TypeId} {v : Value} {vs : List Value} (h : OrdI w0 k A4 c4 T W) (ho : W.ownsRow b t s v q vs) (h1 : 3 ≠ t) (hg : W.grownBy W' v.ownBlock) : OrdI w0 k A4 c4 T W' := ⟨own_apart h.row ho h1 hg, h.far⟩
/-- A place more. -/
theorem OrdI.more {A6 : Option Addr} {c6 : Nat} (h : OrdI w0 k A4 c4 T W) (hT : ∀ b, T b → b < W.heap.size)
    (ho : W'.ownsRow w0.heap.size 3 1 (.slice A6 (k + 1) c6) (k + 1) ((upTo k).map i64v ++ [.int .i64 (k : Int)]))
    (hat : (Value.slice A6 (k + 1) c6).ownBlock = (Value.slice A4 k c4).ownBlock ∨ (Value.slice A6 (k + 1) c6).ownBlock = some W.heap.size) : OrdI w0 (k + 1) A6 c6 T W' := by
  refine ⟨?_, fun b hb h9 => ?_⟩
  · have e : (upTo (k + 1)).map i64v = (upTo k).map i64v ++ [.int .i64 (k : Int)] := by
      unfold upTo
      rw [List.range_succ]
      simp [i64v]
    rw [e]
    exact ho
  · rcases hat with h8 | h8
    · exact h.far b (by rw [← h8]; exact hb) h9
    · rw [h8] at hb
      have := Option.some.inj hb
      have := hT b h9
      omega
/-- The calls' row, while the order's row grows. -/
theorem MadeI.grown {b q s : Nat} {t : TypeId} {v : Value} {vs : List Value} (h : MadeI w0 xs gr f l A3 c3 A4 c4 T ys W) (ho : W.ownsRow b t s v q vs) (hb : w0.heap.size ≤ b) (h1 : 5 ≠ t) (h2 : 30 ≠ t) (h3 : TC ≠ t) (hfar : ∀ b, v.ownBlock = some b → ¬ T b) (hg : W.grownBy W' v.ownBlock) : MadeI w0 xs gr f l A3 c3 A4 c4 T ys W' :=
  ⟨own_apart h.row ho h3 hg, h.len, h.same, fun y hy => (h.see y hy).apart ho h1 h2 hg, h.far3, mod_grown h.mdl hg hfar, fun b hT => ⟨(h.low b hT).1, Nat.lt_of_lt_of_le (h.low b hT).2 hg.size⟩, h.bel.grown hg h.bel.size (fun k hk => Nat.le_trans hb (own_block_ge ho k hk).1)⟩
/-- The row, as it was handed in. -/
theorem MadeI.seen (h : MadeI w0 xs gr f l A3 c3 A4 c4 T ys W) : SeenC W A3 ys := by
  refine ⟨_, (sees_own' h.row).2.2.2, ys.map fun y => y.1.cells.toList, rfl, by simp, fun j x cs hx hc => ?_⟩
  rw [List.getElem?_map, hx] at hc
  cases hc
  obtain ⟨⟨D, dc, h1, h2, h3⟩, R, rc, cells, h4, h5, h6, css, k1, k2, k3⟩ := h.see x (List.mem_of_getElem? hx)
  refine ⟨rfl, rfl, ⟨D, dc, h1, h2, h3.below h.bel⟩, R, rc, h4, cells, (sees_own' h5).2.2.2, css, k1, k2, fun j x cs hx hc => ⟨(k3 j x cs hx hc).1, ?_⟩⟩
  obtain ⟨A1, c1, e, ho, _⟩ := (k3 j x cs hx hc).2
  obtain ⟨_, q1, q2, q3⟩ := sees_own' ho
  exact ⟨A1, c1, e, q1, q2, q3⟩
theorem RSee.set {cb : Nat} {cs : Array Value} (h : RSee w0 T y W) (hc : W.heap[cb]? = some (.cells cs TC (0, 0))) (p : Addr) (v : Value) (hp : p.block = cb) : RSee w0 T y (W.setCell p v) := by
  obtain ⟨k1, R, rc, cells, k2, k3, k4, k5⟩ := h
  have hk : ∀ b, b ≠ cb → (W.setCell p v).heap[b]? = W.heap[b]? := fun b hb => Below.heap_setCell W p v b (fun e => hb (by rw [e, hp]))
  refine ⟨k1, R, rc, cells, k2, own_same k3 (fun b hb => hk b (fun e => own_far k3 hc (by decide) (by rw [hb, e]))), k4, k5.imp fun j x cs _ hR => ?_⟩
  obtain ⟨A', c', e, ho', hs'⟩ := hR
  exact ⟨A', c', e, own_same ho' (fun b hb => hk b (fun e => own_far ho' hc (by decide) (by rw [hb, e]))), hs'⟩
theorem MadeI.set {cb : Nat} {cs : Array Value} (h : MadeI w0 xs gr f l A3 c3 A4 c4 T ys W) (hc : W.heap[cb]? = some (.cells cs TC (0, 0))) (h3 : ∀ b, (Value.slice A3 xs.length c3).ownBlock = some b → b ≠ cb) (hT : ¬ T cb) (h0 : w0.heap.size ≤ cb) (p : Addr) (v : Value) (hp : p.block = cb) : MadeI w0 xs gr f l A3 c3 A4 c4 T ys (W.setCell p v) := by
  have hk : ∀ b, b ≠ cb → (W.setCell p v).heap[b]? = W.heap[b]? := fun b hb => Below.heap_setCell W p v b (fun e => hb (by rw [e, hp]))
  have hz : (W.setCell p v).heap.size = W.heap.size := by simp [World.setCell]
  exact ⟨own_same h.row (fun b hb => hk b (h3 b hb)), h.len, h.same, fun y hy => (h.see y hy).set hc p v hp, h.far3, h.mdl.keep (fun b _ hs => hk b (fun e => hT (by rw [← e]; exact hs))), fun b hb => by rw [hz]; exact h.low b hb, h.bel.setCell (by rw [hp]; exact h0) v⟩
theorem OrdI.set {cb : Nat} {cs : Array Value} (h : OrdI w0 k A4 c4 T W) (hc : W.heap[cb]? = some (.cells cs TC (0, 0))) (p : Addr) (v : Value) (hp : p.block = cb) : OrdI w0 k A4 c4 T (W.setCell p v) :=
  ⟨own_same h.row (fun b hb => Below.heap_setCell W p v b (fun e => own_far h.row hc (by decide) (by rw [hb, e, hp]))), h.far⟩
end
theorem opM_bound (os : List OpM) : ∀ k, (opM os k).1 + (opM os k).2.length ≤ k
  | 0 => Nat.le_refl _
  | k + 1 => by
    have ih := opM_bound os k
    simp only [opM]
    unfold opF
    split
    · simp only [List.length_append, List.length_singleton]
      omega
    · split
      · simp only [List.length_drop]
        have := @clampN_le (os.getD k (0, 0, 0, [])).2.1 (opM os k).1 (opM os k).2.length
        omega
      · omega
theorem opM_mem (os : List OpM) : ∀ k, ∀ r ∈ (opM os k).2, ∃ j, j < k ∧ r = (os.getD j (0, 0, 0, [])).2.2.2
  | 0, r, h => by cases h
  | k + 1, r, h => by
    simp only [opM] at h
    unfold opF at h
    split at h
    · rcases List.mem_append.1 h with h9 | h9
      · obtain ⟨j, hj, e⟩ := opM_mem os k r h9
        exact ⟨j, by omega, e⟩
      · exact ⟨k, by omega, List.mem_singleton.1 h9⟩
    · split at h
      · obtain ⟨j, hj, e⟩ := opM_mem os k r (List.mem_of_mem_drop h)
        exact ⟨j, by omega, e⟩
      · obtain ⟨j, hj, e⟩ := opM_mem os k r h
        exact ⟨j, by omega, e⟩
theorem getL_small {fr mo : Int} {f : Nat} {l : List (List UInt8)} : (getL fr mo f l).length ≤ l.length ∧ ∀ x ∈ getL fr mo f l, x ∈ l := by
  unfold getL
  split
  · refine ⟨?_, fun x hx => List.mem_of_mem_drop (List.mem_of_mem_take hx)⟩
    rw [List.length_take, List.length_drop]
    omega
  · exact ⟨Nat.zero_le _, fun x hx => by cases hx⟩
theorem made_small {os : List OpM} {ws : List Int} {k : Nat} (hk : k ≤ 60) (h : ∀ j, (os.getD j (0, 0, 0, [])).2.2.2.length ≤ 140737488351232) : Small (madeL os ws k) := by
  intro x hx
  obtain ⟨i, hi, rfl⟩ := List.mem_map.1 hx
  rw [List.mem_range] at hi
  have hm := opM_mem os i
  have hb := opM_bound os i
  unfold madeAt made1
  split
  · exact ⟨h i, by simp, fun r hr => by cases hr⟩
  · split
    · exact ⟨h i, by simp, fun r hr => by cases hr⟩
    · refine ⟨h i, ?_, fun r hr => ?_⟩
      · have := (@getL_small ((opM os i).1 : Int) (max (os.getD i (0, 0, 0, [])).2.2.1 0) (opM os i).1 (opM os i).2).1
        dsimp only
        omega
      · obtain ⟨j, _, e⟩ := hm r (getL_small.2 r hr)
        rw [e]
        exact h j
theorem same_small {xs ys : List Full} (hl : ys.length = xs.length) (h : ∀ (j : Nat) (x y : Full), xs[j]? = some x → ys[j]? = some y → SameF x y) (hs : Small xs) : Small ys := by
  intro y hy
  obtain ⟨j, hj, rfl⟩ := List.getElem_of_mem hy
  have h9 := h j _ _ (List.getElem?_eq_getElem (by omega)) (List.getElem?_eq_getElem hj)
  rw [h9.1]
  exact hs _ (List.getElem_mem (show j < xs.length by omega))
theorem made_ints {os : List OpM} {ws : List Int} {j : Nat} (hj : j ≤ 60) : ((madeAt os ws j).1.kind = 3 → 0 ≤ (madeAt os ws j).1.start ∧ (madeAt os ws j).1.start ≤ 60) ∧ ((madeAt os ws j).1.kind ≠ 3 → 0 ≤ (madeAt os ws j).1.number ∧ (madeAt os ws j).1.number ≤ 60) := by
  have hb := opM_bound os j
  have hc := @clampN_le (os.getD j (0, 0, 0, [])).2.1 (opM os j).1 (opM os j).2.length
  unfold madeAt made1
  split
  · exact ⟨fun h => by simp at h, fun _ => by dsimp only; omega⟩
  · split
    · exact ⟨fun _ => by dsimp only; omega, fun h => by simp at h⟩
    · exact ⟨fun h => by simp at h, fun _ => by dsimp only; omega⟩
theorem same_turned {x y : Full} (h : SameF x y) : SameF (turned x) (turned y) := by
  obtain ⟨h1, h2⟩ := h
  have hk : y.1.kind = x.1.kind := by rw [h2]
  unfold turned
  rw [hk]
  split
  · exact ⟨h1, by dsimp only; rw [h2]⟩
  · exact ⟨h1, by dsimp only; rw [h2]⟩
theorem SameF.refl (x : Full) : SameF x x := ⟨rfl, rfl⟩
theorem flat_set (v : Value) (y' : Full) (i : Nat) (hi : i < 12) : ∀ (ys : List Full) (j : Nat), j < ys.length → (∀ y, ys[j]? = some y → y'.1.cells.toList = y.1.cells.toList.set i v) → ((ys.map fun y => y.1.cells.toList).flatten).set (j * 12 + i) v = ((ys.set j y').map fun y => y.1.cells.toList).flatten
  | [], j, hj, _ => by simp at hj
  | y :: r, 0, _, h => by
    have h9 := h y rfl
    simp only [List.set_cons_zero, List.map_cons, List.flatten_cons]
    rw [List.set_append, if_pos (by show 0 * 12 + i < 12; omega), h9]
    simp
  | y :: r, j + 1, hj, h => by
    have ih := flat_set v y' i hi r j (by simpa using hj) (fun z hz => h z hz)
    simp only [List.set_cons_succ, List.map_cons, List.flatten_cons]
    have e : y.1.cells.toList.length = 12 := rfl
    rw [List.set_append, if_neg (by rw [e]; omega), e, ← ih]
    congr 2
    omega
/-- One call's answer is changed. -/
theorem MadeI.turn {w0 W : World} {xs ys : List Full} {gr f g c3 c4 j i : Nat} {l : List (List UInt8)} {A4 : Option Addr} {T : Nat → Prop} {y' : Full} {v : Value} (h : MadeI w0 xs gr f l (some ⟨g, 0, none⟩) c3 A4 c4 T ys W) (hj : j < ys.length) (hi : i < 12)
    (hy : ∀ y, ys[j]? = some y → y'.1.cells.toList = y.1.cells.toList.set i v ∧ y'.1.dv = y.1.dv ∧ y'.1.rv = y.1.rv ∧ y'.2 = y.2) :
    MadeI w0 (ys.set j y') gr f l (some ⟨g, 0, none⟩) c3 A4 c4 T (ys.set j y') (W.setCell ⟨g, j * 12 + i, none⟩ v) ∧ ∃ cur, W.heap[g]? = some (.cells cur TC (0, 0)) := by
  have hl : (ys.set j y').length = xs.length := by rw [List.length_set, h.len]
  have hz : (W.setCell ⟨g, j * 12 + i, none⟩ v).heap.size = W.heap.size := by simp [World.setCell]
  obtain ⟨hge, hlt⟩ := own_block_ge h.row g rfl
  obtain ⟨cur, hcur⟩ : ∃ cur, W.heap[g]? = some (.cells cur TC (0, 0)) := by
    rcases h.row.2 with ⟨e1, _⟩ | ⟨g', cap, cur, hv, _, hh, _⟩
    · simp at e1
    · simp only [Value.slice.injEq, Option.some.injEq, Addr.mk.injEq, and_true, true_and] at hv
      obtain ⟨rfl, rfl⟩ := hv
      exact ⟨cur, hh⟩
  have hnT : ¬ T g := h.far3 g rfl
  refine ⟨⟨?_, rfl, fun a x y hx hy' => ?_, fun y hy' => ?_, ?_, h.mdl.keep (fun b _ hs => Below.heap_setCell W _ v b (fun e => hnT (by rw [← show b = g from e]; exact hs))), fun b hb => by rw [hz]; exact h.low b hb, h.bel.setCell hge v⟩, cur, hcur⟩
  · rw [hl, ← flat_set v y' i hi ys j hj (fun y e => (hy y e).1)]
    exact (World.ownsRow.stored h.row (j * 12 + i) v).1
  · rw [hx] at hy'
    cases hy'
    exact SameF.refl x
  · rcases List.mem_or_eq_of_mem_set hy' with h9 | rfl
    · exact (h.see y h9).set hcur _ v rfl
    · obtain ⟨_, e1, e2, e3⟩ := hy ys[j] (List.getElem?_eq_getElem hj)
      have h9 := (h.see _ (List.getElem_mem hj)).set hcur ⟨g, j * 12 + i, none⟩ v rfl
      obtain ⟨k1, k2⟩ := h9
      refine ⟨?_, ?_⟩
      · rw [e1, e3]; exact k1
      · rw [e2, e3]; exact k2
  · rw [hl]
    exact h.far3
end Go.Proofs.Ytbnbeailbhnbdaa
