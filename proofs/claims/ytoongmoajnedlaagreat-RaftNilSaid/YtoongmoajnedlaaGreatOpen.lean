/-
  Arguments opened: rows, records, rows of records, to whatever depth.
-/
import Derived.Test.YtoongmoajnedlaaGreatLib
import Derived.ProofKit
import Derived.OpenShut
import Derived.SizedLaws
import Derived.Lib.SmallJoins
import Derived.Deep.Strs
set_option linter.unusedVariables false
set_option linter.unusedSimpArgs false
namespace Go.Proofs.YtoongmoajnedlaaGreat
open Go.ChangeShapes Go.WideShapes Go.ChangeAt Go.RowKit

section
variable {H : Type} {P : Program} {enc : TypeId × Value → H} {W : World} {sp : Nat → Bool}
/-- Whatever is read at this type is such a thing; its numbers are bounded as its weights are. -/
def Opens (P : Program) (enc : TypeId × Value → H) (W : World) (sp : Nat → Bool) (t : TypeId) {α : Type} (R : α → List Value → Prop) (Bd : Nat → α → Prop) : Prop :=
  ∀ (fuel : Nat) (cs : List Value) (x : DataW H × List MemPlace), DataW.trod enc P W 0 sp true fuel t cs = some x → ∃ y : α, R y cs ∧ ∀ m, (∀ n ∈ x.1.weights P t, n ≤ m) → Bd m y
theorem opens_int {t : TypeId} (k : IntKind) (ht : P.underlying t = some (.int k)) : Opens P enc W sp t (fun (i : Int) cs => cs = [.int k i] ∧ (Lit.int k i).wf = true) (fun _ _ => True) := fun fuel cs x h => by
  obtain ⟨n, e, _, hw⟩ := DataW.trod_int ht h
  exact ⟨n, ⟨e, hw⟩, fun _ _ => trivial⟩
theorem opens_bool {t : TypeId} (ht : P.underlying t = some .bool) : Opens P enc W sp t (fun (b : Bool) cs => cs = [.bool b]) (fun _ _ => True) := fun fuel cs x h => by
  obtain ⟨b, e, _⟩ := DataW.trod_bool ht h
  exact ⟨b, e, fun _ _ => trivial⟩
theorem opens_byte {t : TypeId} (ht : P.underlying t = some (.int .u8)) : Opens P enc W sp t (fun (b : UInt8) cs => cs = [u8v b]) (fun _ _ => True) := fun fuel cs x h => by
  obtain ⟨n, e, _, hw⟩ := DataW.trod_int ht h
  refine ⟨UInt8.ofNat n.toNat, ?_, fun _ _ => trivial⟩
  simp [Lit.wf, IntKind.min, IntKind.max, IntKind.signed, IntKind.bits] at hw
  rw [e]
  show [Value.int .u8 n] = [u8v (UInt8.ofNat n.toNat)]
  unfold u8v
  rw [UInt8.toNat_ofNat', Nat.mod_eq_of_lt (by omega)]
  congr 2
  omega
theorem opens_mono {t : TypeId} {α : Type} {R R' : α → List Value → Prop} {Bd Bd' : Nat → α → Prop} (h : Opens P enc W sp t R Bd) (hR : ∀ y cs, R y cs → R' y cs) (hB : ∀ m y, Bd m y → Bd' m y) : Opens P enc W sp t R' Bd' := fun fuel cs x hx => by
  obtain ⟨y, h1, h2⟩ := h fuel cs x hx
  exact ⟨y, hR _ _ h1, fun m hm => hB _ _ (h2 m hm)⟩
/-- The same thing by another name. -/
theorem opens_map {t : TypeId} {α β : Type} {R : α → List Value → Prop} {R' : β → List Value → Prop} {Bd : Nat → α → Prop} {Bd' : Nat → β → Prop} (f : α → β) (h : Opens P enc W sp t R Bd) (hR : ∀ y cs, R y cs → R' (f y) cs) (hB : ∀ m y, Bd m y → Bd' m (f y)) : Opens P enc W sp t R' Bd' := fun fuel cs x hx => by
  obtain ⟨y, h1, h2⟩ := h fuel cs x hx
  exact ⟨f y, hR _ _ h1, fun m hm => hB _ _ (h2 m hm)⟩
theorem weights_in {e : TypeId} {l : List (DataW H)} {d : DataW H} (h : d ∈ l) : ∀ n ∈ d.weights P e, n ∈ DataW.weightsAll P e l := by
  induction l with
  | nil => cases h
  | cons x r ih =>
    intro n hn
    simp only [DataW.weightsAll, List.mem_append]
    rcases List.mem_cons.1 h with rfl | h
    · exact .inl hn
    · exact .inr (ih h n hn)
/-- What is read of a slice whose things are such. -/
def SliceR (W : World) {α : Type} (R : α → List Value → Prop) (sz : Nat) (ys : List α) (cs : List Value) : Prop :=
  ∃ A c cells, cs = [.slice A ys.length c] ∧ ys.length ≤ c ∧ c ≤ maxLen ∧ Sees W A cells ∧ Recs (fun _ => R) sz W ys cells
theorem opens_slice {t e : TypeId} {α : Type} {R : α → List Value → Prop} {Bd : Nat → α → Prop} (sz k : Nat) (ht : P.underlying t = some (.slice e)) (hc : P.cellsOf e = sz) (hpos : 0 < sz) (hk : P.bytesOf e = k) (hR : ∀ y cs, R y cs → cs.length = sz) (h : Opens P enc W sp e R Bd) :
    Opens P enc W sp t (SliceR W R sz) (fun m ys => ys.length * k ≤ m ∧ ∀ y ∈ ys, Bd m y) := fun fuel cs x hf => by
  rcases DataW.trod_slice ht hf with ⟨rfl, h2⟩ | ⟨a, len, cap, elems, rest, n, _, rfl, h2, _, hl, hm, hlen, hel, _, _⟩
  · exact ⟨[], ⟨none, 0, [], rfl, Nat.le_refl _, Nat.zero_le _, Sees.nil _ _, Recs.nil⟩, fun m _ => ⟨by simp, fun y hy => by cases hy⟩⟩
  have each : ∀ i : Nat, ∃ y : Option (α × List Value), i < len → ∃ z, y = some z ∧ R z.1 z.2 ∧ (∀ k u, z.2[k]? = some u → W.cell? (a.add (i * sz + k)) = some u) ∧ ∃ d ∈ elems.map (·.1), ∀ m, (∀ n ∈ d.weights P e, n ≤ m) → Bd m z.1 := by
    intro i
    by_cases hi : i < len
    · have h3 := hel i hi
      rw [List.getElem?_eq_getElem (by omega), hc, Option.bind_eq_some_iff] at h3
      obtain ⟨cs, hcs, hy⟩ := h3
      obtain ⟨y, h4, h5⟩ := h n cs _ hy
      refine ⟨some (y, cs), fun _ => ⟨(y, cs), rfl, h4, fun j u hj => ?_, elems[i].1, List.mem_map.2 ⟨_, List.getElem_mem _, rfl⟩, h5⟩⟩
      have hj2 : j < sz := by
        have := (List.getElem?_eq_some_iff.1 hj).1
        simp only [hR _ _ h4] at this
        exact this
      have h6 := (World.cells?_some hcs).2.2 j hj2
      rw [add_at] at h6
      rw [h6]
      exact hj
    · exact ⟨none, fun h => absurd h hi⟩
  obtain ⟨g0, hg0⟩ := Classical.axiomOfChoice each
  by_cases hl0 : len = 0
  · subst hl0
    rw [h2]
    refine ⟨[], ⟨some a, cap, [], rfl, Nat.zero_le _, hm, Sees.nil _ _, Recs.nil⟩, fun m _ => ⟨by simp, fun y hy => by cases hy⟩⟩
  obtain ⟨z0, _, _⟩ := hg0 0 (by omega)
  obtain ⟨g, hgd⟩ : ∃ g : Nat → α × List Value, ∀ i, g i = (g0 i).getD z0 := ⟨fun i => (g0 i).getD z0, fun _ => rfl⟩
  have hg : ∀ i, i < len → R (g i).1 (g i).2 ∧ (∀ k u, (g i).2[k]? = some u → W.cell? (a.add (i * sz + k)) = some u) ∧ ∃ d ∈ elems.map (·.1), ∀ m, (∀ n ∈ d.weights P e, n ≤ m) → Bd m (g i).1 := by
    intro i hi
    obtain ⟨z, e1, h3⟩ := hg0 i hi
    rw [hgd, e1]
    exact h3
  clear hgd
  have hcss : ∀ cs ∈ (List.range len).map (fun i => (g i).2), cs.length = sz := by
    intro cs hcs
    obtain ⟨i, hi, rfl⟩ := List.mem_map.1 hcs
    exact hR _ _ (hg i (List.mem_range.1 hi)).1
  refine ⟨(List.range len).map (fun i => (g i).1), ⟨some a, cap, ((List.range len).map (fun i => (g i).2)).flatten, by simp, by simpa using hl, hm, ?_, ⟨_, rfl, by simp, ?_⟩⟩, ?_⟩
  · intro j v hj
    refine ⟨a, rfl, ?_⟩
    have hjl := (List.getElem?_eq_some_iff.1 hj).1
    rw [flatten_len hcss, List.length_map, List.length_range] at hjl
    have hi : j / sz < len := Nat.div_lt_of_lt_mul (by rw [Nat.mul_comm]; exact hjl)
    have h6 : ((List.range len).map (fun i => (g i).2))[j / sz]? = some (g (j / sz)).2 := by simp [hi]
    have h7 : j % sz < (g (j / sz)).2.length := by rw [hcss _ (List.mem_of_getElem? h6)]; exact Nat.mod_lt _ hpos
    have h8 := flatten_get hcss (j / sz) _ h6 (j % sz) _ (List.getElem?_eq_getElem h7)
    rw [Nat.div_add_mod' j sz] at h8
    rw [h8] at hj
    cases hj
    have h9 := (hg (j / sz) hi).2.1 (j % sz) _ (List.getElem?_eq_getElem h7)
    rwa [Nat.div_add_mod' j sz] at h9
  · intro j x cs hx hcs
    simp only [List.getElem?_map, Option.map_eq_some_iff] at hx hcs
    obtain ⟨i, hi, rfl⟩ := hx
    obtain ⟨i', hi', rfl⟩ := hcs
    rw [hi] at hi'
    cases hi'
    have hil : i < len := List.mem_range.1 (List.mem_of_getElem? hi)
    exact ⟨hcss _ (List.mem_map.2 ⟨i, List.mem_range.2 hil, rfl⟩), (hg i hil).1⟩
  · intro m hm
    rw [h2] at hm
    simp only [DataW.weights, ht] at hm
    refine ⟨?_, fun f hf => ?_⟩
    · have h5 := hm _ List.mem_cons_self
      rw [hk] at h5
      simp only [List.length_map, List.length_range] at h5 ⊢
      exact Nat.le_trans (Nat.mul_le_mul_right _ (by omega)) h5
    · obtain ⟨i, hi, rfl⟩ := List.mem_map.1 hf
      obtain ⟨_, _, d, hd, hb⟩ := hg i (List.mem_range.1 hi)
      exact hb m (fun n hn => hm n (List.mem_cons_of_mem _ (List.mem_append_left _ (weights_in hd n hn))))
theorem opens_struct2 {t : TypeId} {f0 f1 : Field} {α β : Type} {R0 : α → List Value → Prop} {R1 : β → List Value → Prop} {B0 : Nat → α → Prop} {B1 : Nat → β → Prop} (ht : P.underlying t = some (.struct #[f0, f1]))
    (h0 : Opens P enc W sp f0.type R0 B0) (h1 : Opens P enc W sp f1.type R1 B1) :
    Opens P enc W sp t (fun (y : α × β) cs => cs.length = P.cellsOf t ∧ R0 y.1 ((cs.drop f0.offset).take (P.cellsOf f0.type)) ∧ R1 y.2 ((cs.drop f1.offset).take (P.cellsOf f1.type))) (fun m y => B0 m y.1 ∧ B1 m y.2) := fun fuel cs x h => by
  obtain ⟨y0, y1, n, hx, hl, t0, t1⟩ := trod_struct2 ht h
  obtain ⟨a0, r0, b0⟩ := h0 _ _ _ t0
  obtain ⟨a1, r1, b1⟩ := h1 _ _ _ t1
  refine ⟨(a0, a1), ⟨hl, r0, r1⟩, fun m hm => ?_⟩
  rw [hx] at hm
  simp only [DataW.weights, ht, DataW.weightsEach, List.map_cons, List.map_nil, List.mem_append] at hm
  exact ⟨b0 m (fun n hn => hm n (.inl hn)), b1 m (fun n hn => hm n (.inr (.inl hn)))⟩
theorem opens_struct3 {t : TypeId} {f0 f1 f2 : Field} {α β γ : Type} {R0 : α → List Value → Prop} {R1 : β → List Value → Prop} {R2 : γ → List Value → Prop} {B0 : Nat → α → Prop} {B1 : Nat → β → Prop} {B2 : Nat → γ → Prop} (ht : P.underlying t = some (.struct #[f0, f1, f2]))
    (h0 : Opens P enc W sp f0.type R0 B0) (h1 : Opens P enc W sp f1.type R1 B1) (h2 : Opens P enc W sp f2.type R2 B2) :
    Opens P enc W sp t (fun (y : α × β × γ) cs => cs.length = P.cellsOf t ∧ R0 y.1 ((cs.drop f0.offset).take (P.cellsOf f0.type)) ∧ R1 y.2.1 ((cs.drop f1.offset).take (P.cellsOf f1.type)) ∧ R2 y.2.2 ((cs.drop f2.offset).take (P.cellsOf f2.type))) (fun m y => B0 m y.1 ∧ B1 m y.2.1 ∧ B2 m y.2.2) := fun fuel cs x h => by
  obtain ⟨y0, y1, y2, n, hx, hl, t0, t1, t2⟩ := Deep.trod_struct3 ht h
  obtain ⟨a0, r0, b0⟩ := h0 _ _ _ t0
  obtain ⟨a1, r1, b1⟩ := h1 _ _ _ t1
  obtain ⟨a2, r2, b2⟩ := h2 _ _ _ t2
  refine ⟨(a0, a1, a2), ⟨hl, r0, r1, r2⟩, fun m hm => ?_⟩
  rw [hx] at hm
  simp only [DataW.weights, ht, DataW.weightsEach, List.map_cons, List.map_nil, List.mem_append] at hm
  exact ⟨b0 m (fun n hn => hm n (.inl hn)), b1 m (fun n hn => hm n (.inr (.inl hn))), b2 m (fun n hn => hm n (.inr (.inr (.inl hn))))⟩
theorem opens_struct4 {t : TypeId} {f0 f1 f2 f3 : Field} {α β γ δ : Type} {R0 : α → List Value → Prop} {R1 : β → List Value → Prop} {R2 : γ → List Value → Prop} {R3 : δ → List Value → Prop} {B0 : Nat → α → Prop} {B1 : Nat → β → Prop} {B2 : Nat → γ → Prop} {B3 : Nat → δ → Prop} (ht : P.underlying t = some (.struct #[f0, f1, f2, f3]))
    (h0 : Opens P enc W sp f0.type R0 B0) (h1 : Opens P enc W sp f1.type R1 B1) (h2 : Opens P enc W sp f2.type R2 B2) (h3 : Opens P enc W sp f3.type R3 B3) :
    Opens P enc W sp t (fun (y : α × β × γ × δ) cs => cs.length = P.cellsOf t ∧ R0 y.1 ((cs.drop f0.offset).take (P.cellsOf f0.type)) ∧ R1 y.2.1 ((cs.drop f1.offset).take (P.cellsOf f1.type)) ∧ R2 y.2.2.1 ((cs.drop f2.offset).take (P.cellsOf f2.type)) ∧ R3 y.2.2.2 ((cs.drop f3.offset).take (P.cellsOf f3.type))) (fun m y => B0 m y.1 ∧ B1 m y.2.1 ∧ B2 m y.2.2.1 ∧ B3 m y.2.2.2) := fun fuel cs x h => by
  obtain ⟨y0, y1, y2, y3, n, hx, hl, t0, t1, t2, t3⟩ := Joins.trod_struct4 ht h
  obtain ⟨a0, r0, b0⟩ := h0 _ _ _ t0
  obtain ⟨a1, r1, b1⟩ := h1 _ _ _ t1
  obtain ⟨a2, r2, b2⟩ := h2 _ _ _ t2
  obtain ⟨a3, r3, b3⟩ := h3 _ _ _ t3
  refine ⟨(a0, a1, a2, a3), ⟨hl, r0, r1, r2, r3⟩, fun m hm => ?_⟩
  rw [hx] at hm
  simp only [DataW.weights, ht, DataW.weightsEach, List.map_cons, List.map_nil, List.mem_append] at hm
  exact ⟨b0 m (fun n hn => hm n (.inl hn)), b1 m (fun n hn => hm n (.inr (.inl hn))), b2 m (fun n hn => hm n (.inr (.inr (.inl hn)))), b3 m (fun n hn => hm n (.inr (.inr (.inr (.inl hn)))))⟩
/-- At an argument. -/
theorem open_top {t : TypeId} {α : Type} {R : α → List Value → Prop} {Bd : Nat → α → Prop} (h : Opens P enc W sp t R Bd) {v : Value} {d : DataW H} {ps : List MemPlace} (hd : DataW.Trod enc P W 0 sp true t v d ps) :
    ∃ y : α, R y v.cells.toList ∧ ∀ m, (∀ n ∈ d.weights P t, n ≤ m) → Bd m y := by
  obtain ⟨fuel, hf⟩ := hd
  obtain ⟨y, h1, h2⟩ := h fuel _ _ hf
  exact ⟨y, h1, h2⟩
/-- Bytes. -/
theorem bytes_of {ys : List UInt8} {cells : List Value} (h : Recs (fun _ (b : UInt8) cs => cs = [u8v b]) 1 W ys cells) : cells = u8s ys := by
  obtain ⟨css, rfl, h2, h3⟩ := h
  have : css = ys.map fun b => [u8v b] := by
    refine List.ext_getElem? fun i => ?_
    by_cases hi : i < css.length
    · have h4 := (h3 i _ _ (List.getElem?_eq_getElem (by omega)) (List.getElem?_eq_getElem hi)).2
      rw [List.getElem?_eq_getElem hi, h4, List.getElem?_map, List.getElem?_eq_getElem (by omega)]
      rfl
    · rw [List.getElem?_eq_none (by omega), List.getElem?_eq_none (by simp; omega)]
  rw [this]
  unfold u8s
  clear this h2 h3
  induction ys <;> simp_all
end
end Go.Proofs.YtoongmoajnedlaaGreat
