/-
  HistoryModels: what is handed in; two models in blocks of their own.
-/
import Derived.Test.YtbnbeailbhnbdaaKnow
set_option linter.unusedVariables false
set_option linter.unusedSimpArgs false
namespace Go.Proofs.Ytbnbeailbhnbdaa
open Go.RowKit

/-- A call of a model: kind, two numbers, data. -/
abbrev OpM := Int × Int × Int × List UInt8
def opmSee (w : World) (o : OpM) (cs : List Value) : Prop :=
  ∃ A c, cs = [.int .i64 o.1, .int .i64 o.2.1, .int .i64 o.2.2.1, .slice A o.2.2.2.length c] ∧ o.2.2.2.length ≤ c ∧ o.2.2.2.length ≤ 140737488351232 ∧ Sees w A (u8s o.2.2.2)
def SeenM (w : World) (A : Option Addr) (os : List OpM) : Prop := ∃ cells, Sees w A cells ∧ Recs opmSee 4 w os cells
structure OpmAt (w : World) (A : Option Addr) (o : OpM) (k : Nat) (ad : Addr) (A1 : Option Addr) (c1 : Nat) : Prop where
  adr : A = some ad
  blk : (ad.add (k * 4)).block < w.heap.size
  e0 : w.cell? (ad.add (k * 4)) = some (.int .i64 o.1)
  e1 : w.cell? ⟨(ad.add (k * 4)).block, (ad.add (k * 4)).off + 1, none⟩ = some (.int .i64 o.2.1)
  e2 : w.cell? ⟨(ad.add (k * 4)).block, (ad.add (k * 4)).off + 2, none⟩ = some (.int .i64 o.2.2.1)
  e3 : w.cell? ⟨(ad.add (k * 4)).block, (ad.add (k * 4)).off + 3, none⟩ = some (.slice A1 o.2.2.2.length c1)
  bc : o.2.2.2.length ≤ c1
  bl : o.2.2.2.length ≤ 140737488351232
  bs : Sees w A1 (u8s o.2.2.2)
theorem SeenM.at {w : World} {A : Option Addr} {os : List OpM} (h : SeenM w A os) {k : Nat} (hk : k < os.length) : ∃ ad A1 c1, OpmAt w A os[k] k ad A1 c1 := by
  obtain ⟨cells, hs, hr⟩ := h
  obtain ⟨cs, hcl, ⟨A1, c1, rfl, h1, h2, h3⟩, hcs⟩ := hr.get (List.getElem?_eq_getElem hk)
  obtain ⟨ad, rfl, h0⟩ := hs (k * 4) _ (hcs 0 _ rfl)
  have hx : ∀ (i : Nat) v, 0 < i → cells[k * 4 + i]? = some v → w.cell? ⟨(ad.add (k * 4)).block, (ad.add (k * 4)).off + i, none⟩ = some v := by
    intro i v hi hv
    obtain ⟨ad', e, hc⟩ := hs (k * 4 + i) _ hv
    cases e
    rw [← add_pos _ i hi, add_at]
    exact hc
  exact ⟨ad, A1, c1, rfl, World.block_lt_of_cell? w _ h0, h0, hx 1 _ (by decide) (hcs 1 _ rfl), hx 2 _ (by decide) (hcs 2 _ rfl), hx 3 _ (by decide) (hcs 3 _ rfl), h1, h2, h3⟩
theorem OpmAt.later {w w' : World} {A : Option Addr} {o : OpM} {k : Nat} {ad : Addr} {A1 : Option Addr} {c1 : Nat} (h : OpmAt w A o k ad A1 c1) (hb : Below w.heap.size w w') : OpmAt w' A o k ad A1 c1 :=
  have hx : ∀ i v, w.cell? ⟨(ad.add (k * 4)).block, i, none⟩ = some v → w'.cell? ⟨(ad.add (k * 4)).block, i, none⟩ = some v := fun i v hv => (hb.cell (p := ⟨_, i, none⟩) h.blk).trans hv
  ⟨h.adr, Nat.lt_of_lt_of_le h.blk hb.size, (hb.cell h.blk).trans h.e0, hx _ _ h.e1, hx _ _ h.e2, hx _ _ h.e3, h.bc, h.bl, h.bs.below hb⟩
/-- The program's model and the reference's, in blocks of their own, none of them X. -/
def Two (w0 : World) (X : Nat → Prop) (gm fm : Nat) (lm : List (List UInt8)) (gr fr : Nat) (lr : List (List UInt8)) (W : World) : Prop :=
  ∃ S T : Nat → Prop, (∀ b, S b → w0.heap.size ≤ b ∧ b < W.heap.size ∧ ¬ X b ∧ ¬ T b) ∧ (∀ b, T b → w0.heap.size ≤ b ∧ b < W.heap.size ∧ ¬ X b) ∧ ModAt 61 S gm fm lm W ∧ ModAt 28 T gr fr lr W ∧ Below w0.heap.size w0 W
section
variable {w0 W W' : World} {X Y : Nat → Prop} {gm fm gr fr : Nat} {lm lr : List (List UInt8)}
theorem Two.below (h : Two w0 X gm fm lm gr fr lr W) (hb : Below W.heap.size W W') : Two w0 X gm fm lm gr fr lr W' := by
  obtain ⟨S, T, h1, h2, h3, h4, h5⟩ := h
  have hz := hb.size
  exact ⟨S, T, fun b hb => ⟨(h1 b hb).1, Nat.lt_of_lt_of_le (h1 b hb).2.1 hz, (h1 b hb).2.2⟩, fun b hb => ⟨(h2 b hb).1, Nat.lt_of_lt_of_le (h2 b hb).2.1 hz, (h2 b hb).2.2⟩, h3.below hb, h4.below hb, below_step h5 h5.size hb⟩
theorem Two.fresh (h : Two w0 X gm fm lm gr fr lr W) (hb : Below W.heap.size W W') : Two w0 (fun b => W.heap.size ≤ b ∧ b < W'.heap.size) gm fm lm gr fr lr W' := by
  obtain ⟨S, T, h1, h2, h3, h4, h5⟩ := h
  have hz := hb.size
  exact ⟨S, T, fun b hb => ⟨(h1 b hb).1, Nat.lt_of_lt_of_le (h1 b hb).2.1 hz, fun hx => by have := (h1 b hb).2.1; omega, (h1 b hb).2.2.2⟩, fun b hb => ⟨(h2 b hb).1, Nat.lt_of_lt_of_le (h2 b hb).2.1 hz, fun hx => by have := (h2 b hb).2.1; omega⟩, h3.below hb, h4.below hb, below_step h5 h5.size hb⟩
theorem Two.out (h : Two w0 X gm fm lm gr fr lr W) (ho : Outside X W W') (hX : ∀ b, X b → w0.heap.size ≤ b) : Two w0 X gm fm lm gr fr lr W' := by
  obtain ⟨S, T, h1, h2, h3, h4, h5⟩ := h
  have hz := ho.size
  exact ⟨S, T, fun b hb => ⟨(h1 b hb).1, Nat.lt_of_lt_of_le (h1 b hb).2.1 hz, (h1 b hb).2.2⟩, fun b hb => ⟨(h2 b hb).1, Nat.lt_of_lt_of_le (h2 b hb).2.1 hz, (h2 b hb).2.2⟩, h3.keep (fun b hlt hs => ho.block b hlt (h1 b hs).2.2.1), h4.keep (fun b hlt hs => ho.block b hlt (h2 b hs).2.2), h5.trans (ho.below hX h5.size)⟩
theorem Two.drop (h : Two w0 X gm fm lm gr fr lr W) : Two w0 (fun _ => False) gm fm lm gr fr lr W := by
  obtain ⟨S, T, h1, h2, h3, h4, h5⟩ := h
  exact ⟨S, T, fun b hb => ⟨(h1 b hb).1, (h1 b hb).2.1, fun h => h, (h1 b hb).2.2.2⟩, fun b hb => ⟨(h2 b hb).1, (h2 b hb).2.1, fun h => h⟩, h3, h4, h5⟩
theorem Two.left (h : Two w0 X gm fm lm gr fr lr W) (hX : ∀ b, X b → b < W.heap.size) : ∃ S : Nat → Prop, ModAt 61 S gm fm lm W ∧ (∀ b, S b → w0.heap.size ≤ b ∧ b < W.heap.size ∧ ¬ X b) ∧
    ∀ W' f' l', ModAt 61 (Plus S W) gm f' l' W' → Outside S W W' → Two w0 X gm f' l' gr fr lr W' := by
  obtain ⟨S, T, h1, h2, h3, h4, h5⟩ := h
  refine ⟨S, h3, fun b hb => ⟨(h1 b hb).1, (h1 b hb).2.1, (h1 b hb).2.2.1⟩, fun W' f' l' hm ho => ?_⟩
  have hz := ho.size
  refine ⟨Cut (Plus S W) W', T, ?_, fun b hb => ⟨(h2 b hb).1, Nat.lt_of_lt_of_le (h2 b hb).2.1 hz, (h2 b hb).2.2⟩, hm.cut, h4.keep (fun b hlt ht => ho.block b hlt (fun hs => (h1 b hs).2.2.2 ht)), h5.trans (ho.below (fun b hb => (h1 b hb).1) h5.size)⟩
  rintro b ⟨hb | hb, hlt⟩
  · exact ⟨(h1 b hb).1, hlt, (h1 b hb).2.2⟩
  · exact ⟨by have := h5.size; omega, hlt, fun hx => by have := hX b hx; omega, fun ht => by have := (h2 b ht).2.1; omega⟩
theorem Two.right (h : Two w0 X gm fm lm gr fr lr W) (hX : ∀ b, X b → b < W.heap.size) : ∃ T : Nat → Prop, ModAt 28 T gr fr lr W ∧ (∀ b, T b → w0.heap.size ≤ b ∧ b < W.heap.size ∧ ¬ X b) ∧
    ∀ W' f' l', ModAt 28 (Plus T W) gr f' l' W' → Outside T W W' → Two w0 X gm fm lm gr f' l' W' := by
  obtain ⟨S, T, h1, h2, h3, h4, h5⟩ := h
  refine ⟨T, h4, h2, fun W' f' l' hm ho => ?_⟩
  have hz := ho.size
  refine ⟨S, Cut (Plus T W) W', ?_, ?_, h3.keep (fun b hlt hs => ho.block b hlt (fun ht => (h1 b hs).2.2.2 ht)), hm.cut, h5.trans (ho.below (fun b hb => (h2 b hb).1) h5.size)⟩
  · intro b hb
    obtain ⟨a1, a2, a3, a4⟩ := h1 b hb
    exact ⟨a1, Nat.lt_of_lt_of_le a2 hz, a3, fun ht => ht.1.elim a4 (fun h => by omega)⟩
  · rintro b ⟨hb | hb, hlt⟩
    · exact ⟨(h2 b hb).1, hlt, (h2 b hb).2.2⟩
    · exact ⟨by have := h5.size; omega, hlt, fun hx => by have := hX b hx; omega⟩
end
/-- n places that may be written, in blocks of X. -/
def RoomAt (X : Nat → Prop) (W : World) (A : Option Addr) (n : Nat) : Prop := ∀ i, i < n → ∃ ad, A = some ad ∧ (∃ v : Int, W.cell? (ad.add i) = some (.int .u8 v)) ∧ W.frozen? (ad.add i) = false ∧ X ad.block
theorem RoomAt.set {X : Nat → Prop} {W : World} {A : Option Addr} {n : Nat} (h : RoomAt X W A n) (p : Addr) (v : Int) : RoomAt X (W.setCell p (.int .u8 v)) A n := by
  intro i hi
  obtain ⟨ad, e, ⟨v', hc⟩, hf, hx⟩ := h i hi
  refine ⟨ad, e, ?_, by rw [World.frozen?_setCell]; exact hf, hx⟩
  by_cases heq : p = ad.add i
  · subst heq
    exact ⟨v, World.cell?_setCell_same W _ _ hc⟩
  · exact ⟨v', by rw [World.cell?_setCell_other W _ _ _ heq]; exact hc⟩
theorem RoomAt.below {X : Nat → Prop} {W W' : World} {A : Option Addr} {n : Nat} (h : RoomAt X W A n) (hb : Below W.heap.size W W') : RoomAt X W' A n := by
  intro i hi
  obtain ⟨ad, e, ⟨v', hc⟩, hf, hx⟩ := h i hi
  have hlt := World.block_lt_of_cell? _ _ hc
  exact ⟨ad, e, ⟨v', (hb.cell hlt).trans hc⟩, (hb.frozen hlt).trans hf, hx⟩
/-- An own row of bytes. -/
theorem RoomAt.of_own {X : Nat → Prop} {W : World} {A : Option Addr} {b n m c : Nat} {bs : List UInt8} (h : W.ownsRow b 5 1 (.slice A m c) n (u8s bs)) (hX : ∀ k, (Value.slice A m c).ownBlock = some k → X k) : RoomAt X W A n := by
  intro i hi
  obtain ⟨_, h1, h2, h3⟩ := sees_own' h
  have hl : n = bs.length := by have := h.1; simp [u8s] at this; omega
  have hg : (u8s bs)[i]? = some (u8v (bs[i]'(by omega))) := by
    unfold u8s
    rw [List.getElem?_map, List.getElem?_eq_getElem (by omega)]
    rfl
  obtain ⟨ad, e, hc⟩ := h3 i _ hg
  refine ⟨ad, e, ⟨_, hc⟩, ?_, hX _ (by rw [e]; rfl)⟩
  rcases h.2 with ⟨e1, e2⟩ | ⟨g, cap, cur, hv, hb, hh, _⟩
  · rw [e] at e1
    cases e1
  · rw [e] at hv
    cases hv
    rw [add_base]
    simp [World.frozen?, hh]
end Go.Proofs.Ytbnbeailbhnbdaa
