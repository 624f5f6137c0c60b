/-
  What a call has turned: nothing but some blocks.
-/
import Derived.Test.YtoongmoajnedlaaGreatLib
set_option linter.unusedVariables false
set_option linter.unusedSimpArgs false
namespace Go.Proofs.YtoongmoajnedlaaGreat
open Go.RowKit

/-- Nothing but the blocks of S has turned, and there are new ones. -/
structure Outside (S : Nat → Prop) (W W' : World) : Prop where
  os : W'.os = W.os
  tape : W'.tape = W.tape
  output : W'.output = W.output
  size : W.heap.size ≤ W'.heap.size
  block : ∀ b, b < W.heap.size → ¬ S b → W'.heap[b]? = W.heap[b]?
theorem Outside.refl (S : Nat → Prop) (W : World) : Outside S W W := ⟨rfl, rfl, rfl, Nat.le_refl _, fun _ _ _ => rfl⟩
theorem Outside.of_below {S : Nat → Prop} {W W' : World} (h : Below W.heap.size W W') : Outside S W W' := ⟨h.os, h.tape, h.output, h.size, fun b hb _ => h.block b hb⟩
theorem Outside.below {S : Nat → Prop} {W W' : World} {B : Nat} (h : Outside S W W') (hS : ∀ b, S b → B ≤ b) (hB : B ≤ W.heap.size) : Below B W W' :=
  ⟨h.os, h.tape, h.output, h.size, fun b hb => h.block b (by omega) (fun hs => by have := hS b hs; omega)⟩
theorem Outside.trans {S T : Nat → Prop} {W W1 W2 : World} (h : Outside S W W1) (k : Outside T W1 W2) (hT : ∀ b, b < W.heap.size → T b → S b) : Outside S W W2 :=
  ⟨k.os.trans h.os, k.tape.trans h.tape, k.output.trans h.output, Nat.le_trans h.size k.size, fun b hb hs => (k.block b (Nat.lt_of_lt_of_le hb h.size) (fun ht => hs (hT b hb ht))).trans (h.block b hb hs)⟩
/-- S, and what lies behind W's blocks. -/
def Plus (S : Nat → Prop) (W : World) (b : Nat) : Prop := S b ∨ W.heap.size ≤ b
theorem own_same {w w1 : World} {base n size : Nat} {e : TypeId} {v : Value} {xs : List Value} (h : w.ownsRow base e size v n xs) (hb : ∀ b, v.ownBlock = some b → w1.heap[b]? = w.heap[b]?) : w1.ownsRow base e size v n xs := by
  obtain ⟨h1, h2⟩ := h
  refine ⟨h1, ?_⟩
  rcases h2 with h2 | ⟨g, cap, cur, hv, hg, hh, r⟩
  · exact .inl h2
  · exact .inr ⟨g, cap, cur, hv, hg, (hb g (by rw [hv]; rfl)).trans hh, r⟩
theorem own_apart {w w1 : World} {b b' s s' n n' : Nat} {e e' : TypeId} {v v' : Value} {xs xs' : List Value} (h : w.ownsRow b e s v n xs) (h' : w.ownsRow b' e' s' v' n' xs') (hne : e ≠ e') (hg : w.grownBy w1 v'.ownBlock) : w1.ownsRow b e s v n xs := by
  obtain ⟨h1, h2⟩ := h
  refine ⟨h1, ?_⟩
  rcases h2 with h2 | ⟨g, cap, cur, hv, hb, hh, r⟩
  · exact .inl h2
  · refine .inr ⟨g, cap, cur, hv, hb, (hg.block g (Array.getElem?_eq_some_iff.1 hh).1 (fun eq => ?_)).trans hh, r⟩
    rcases h'.2 with ⟨rfl, _⟩ | ⟨g', cap', cur', rfl, _, hh', _⟩
    · simp [Value.ownBlock] at eq
    · have : g = g' := by simpa [Value.ownBlock] using eq
      subst this
      rw [hh] at hh'
      injection hh' with hh'
      injection hh' with _ ht
      exact hne ht
theorem own_setFar {w : World} {b s n : Nat} {e : TypeId} {v : Value} {xs : List Value} (h : w.ownsRow b e s v n xs) (p : Addr) (u : Value) (hne : v.ownBlock ≠ some p.block) : (w.setCell p u).ownsRow b e s v n xs :=
  own_same h (fun k hk => Below.heap_setCell w p u k (fun eq => hne (by rw [hk, eq])))
/-- S, as far as there are blocks. -/
def Cut (S : Nat → Prop) (w : World) (b : Nat) : Prop := S b ∧ b < w.heap.size
theorem Outside.mono {S T : Nat → Prop} {W W' : World} (h : Outside S W W') (hT : ∀ b, b < W.heap.size → S b → T b) : Outside T W W' := ⟨h.os, h.tape, h.output, h.size, fun b hb hs => h.block b hb (fun h' => hs (hT b hb h'))⟩
theorem Cut.not {S : Nat → Prop} {w : World} {b : Nat} (h : w.heap.size ≤ b) : ¬ Cut S w b := fun h' => Nat.lt_irrefl _ (Nat.lt_of_lt_of_le h'.2 h)
theorem Cut.plus {S : Nat → Prop} {w w1 : World} (h : w.heap.size ≤ w1.heap.size) : ∀ b, Plus (Cut S w) w1 b → Plus S w b := fun b hb => hb.imp (fun h' => h'.1) (fun h2 => Nat.le_trans h h2)
theorem Outside.set {S : Nat → Prop} {W W' : World} (h : Outside S W W') (p : Addr) (v : Value) (hp : W.heap.size ≤ p.block ∨ S p.block) : Outside S W (W'.setCell p v) :=
  ⟨h.os, h.tape, h.output, by simpa [World.setCell] using h.size, fun b hb hs => (Below.heap_setCell W' p v b (fun e => by subst e; rcases hp with hp | hp; exact absurd hb (by omega); exact hs hp)).trans (h.block b hb hs)⟩
theorem Outside.drew {S : Nat → Prop} {W W' : World} (h : Outside S W W') : Outside S W W'.drew := ⟨h.os, h.tape, h.output, h.size, h.block⟩
/-- The class 'of what lay there nothing has turned'. -/
abbrev Later (W w' : World) : Prop := Below W.heap.size W w'
theorem later_step {W w1 w2 : World} (h : Later W w1) (k : Below w1.heap.size w1 w2) : Later W w2 := below_step h h.size k
theorem own_fz' {w : World} {base g n c size : Nat} {e : TypeId} {xs : List Value} (h : w.ownsRow base e size (.slice (some ⟨g, 0, none⟩) n c) n xs) (j : Nat) : w.frozen? ⟨g, j, none⟩ = false := by
  rcases h.2 with ⟨h', _⟩ | ⟨g', cap', cur, h', _, hh, _⟩
  · cases h'
  · cases h'
    simp [World.frozen?, hh]
end Go.Proofs.YtoongmoajnedlaaGreat
