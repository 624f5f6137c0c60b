/-
  A net and its reference, side by side.
-/
import Derived.Test.YtfhmdphcgcmaeaaPair
import Derived.Test.YtfhmdphcgcmaeaaRNet6
set_option linter.unusedVariables false
set_option linter.unusedSimpArgs false
namespace Go.Proofs.Ytfhmdphcgcmaeaa
open Go.RowKit

structure Pair (S1 S2 : Nat → Prop) (g1 g2 : Nat) (most : Int) (ls : List Lt) (ids : List Int) (W : World) : Prop where
  n : NetAt S1 g1 most ls (wallL ids) W
  r : RefAt S2 g2 most ls ids W
  fit : Fit most ls
  ok : ids.all serverB = true
  apart : ∀ b, S1 b → ¬ S2 b
section
variable {S1 S2 : Nat → Prop} {g1 g2 : Nat} {most : Int} {ls : List Lt} {ids : List Int} {W : World}
theorem Pair.keep (h : Pair S1 S2 g1 g2 most ls ids W) {W' : World} (hk : ∀ b, b < W.heap.size → S1 b ∨ S2 b → W'.heap[b]? = W.heap[b]?) : Pair S1 S2 g1 g2 most ls ids W' :=
  ⟨h.n.keep fun b hb hs => hk b hb (.inl hs), h.r.keep fun b hb hs => hk b hb (.inr hs), h.fit, h.ok, h.apart⟩
theorem Pair.later (h : Pair S1 S2 g1 g2 most ls ids W) {W' : World} (hb : Below W.heap.size W W') : Pair S1 S2 g1 g2 most ls ids W' := h.keep fun b hlt _ => hb.block b hlt
theorem Pair.cut (h : Pair S1 S2 g1 g2 most ls ids W) : Pair (Cut S1 W) (Cut S2 W) g1 g2 most ls ids W := ⟨h.n.cut, h.r.cut, h.fit, h.ok, fun b h1 h2 => h.apart b h1.1 h2.1⟩
/-- Behind the net's step: the reference is as it was. -/
theorem Pair.left (h : Pair S1 S2 g1 g2 most ls ids W) {W1 : World} (ho : Outside (Cut S1 W) W W1) : RefAt (Cut S2 W) g2 most ls ids W1 :=
  h.r.cut.keep fun b hb hs => ho.block b hb (fun h1 => h.apart b h1.1 hs.1)
/-- A step of the net, then a step of the reference. -/
theorem Pair.step (h : Pair S1 S2 g1 g2 most ls ids W) {W1 W2 W3 : World} {ls' : List Lt} {ids' : List Int} (hn : NetAt (Plus (Cut S1 W) W) g1 most ls' (wallL ids') W1) (ho : Outside (Cut S1 W) W W1) (hl : Later W1 W2)
    (hr : RefAt (Plus (Cut S2 W) W2) g2 most ls' ids' W3) (ho2 : Outside (Cut S2 W) W2 W3) (hf : Fit most ls') (hok : ids'.all serverB = true) :
    Pair (Cut (Plus (Cut S1 W) W) W2) (Plus (Cut S2 W) W2) g1 g2 most ls' ids' W3 := by
  have hs1 := ho.size
  have hs2 := hl.size
  have hap : ∀ b, Plus (Cut S1 W) W b → ¬ Cut S2 W b := fun b h1 h2 => h1.elim (fun h3 => h.apart b h3.1 h2.1) (fun h3 => Nat.lt_irrefl _ (Nat.lt_of_lt_of_le h2.2 h3))
  refine ⟨(hn.below hl).cut.keep fun b hb hs => ho2.block b hb (hap b hs.1), hr, hf, hok, fun b h1 h2 => h2.elim (hap b h1.1) (fun h3 => Nat.lt_irrefl _ (Nat.lt_of_lt_of_le h1.2 h3))⟩
end
/-- A pair whose blocks are T's. -/
def PairN (T : Nat → Prop) (g1 g2 : Nat) (most : Int) (ls : List Lt) (ids : List Int) (W : World) : Prop := ∃ S1 S2, Pair S1 S2 g1 g2 most ls ids W ∧ ∀ b, S1 b ∨ S2 b → T b
section
variable {T : Nat → Prop} {g1 g2 : Nat} {most : Int} {ls : List Lt} {ids : List Int} {W : World}
theorem PairN.keep (h : PairN T g1 g2 most ls ids W) {W' : World} (hk : ∀ b, b < W.heap.size → T b → W'.heap[b]? = W.heap[b]?) : PairN T g1 g2 most ls ids W' := by
  obtain ⟨S1, S2, h, hT⟩ := h
  exact ⟨S1, S2, h.keep fun b hb hs => hk b hb (hT b hs), hT⟩
theorem PairN.later (h : PairN T g1 g2 most ls ids W) {W' : World} (hb : Below W.heap.size W W') : PairN T g1 g2 most ls ids W' := h.keep fun b hlt _ => hb.block b hlt
theorem PairN.cut (h : PairN T g1 g2 most ls ids W) : PairN (Cut T W) g1 g2 most ls ids W := by
  obtain ⟨S1, S2, h, hT⟩ := h
  exact ⟨_, _, h.cut, fun b hb => hb.elim (fun x => ⟨hT b (.inl x.1), x.2⟩) (fun x => ⟨hT b (.inr x.1), x.2⟩)⟩
theorem PairN.mono (h : PairN T g1 g2 most ls ids W) {T' : Nat → Prop} (hT' : ∀ b, T b → T' b) : PairN T' g1 g2 most ls ids W := by
  obtain ⟨S1, S2, h, hT⟩ := h
  exact ⟨S1, S2, h, fun b hb => hT' b (hT b hb)⟩
/-- Both have taken a step. -/
theorem Pair.stepN {S1 S2 : Nat → Prop} (h : Pair S1 S2 g1 g2 most ls ids W) (hT : ∀ b, S1 b ∨ S2 b → T b) {W1 W2 W3 : World} {ls' : List Lt} {ids' : List Int} (hn : NetAt (Plus (Cut S1 W) W) g1 most ls' (wallL ids') W1) (ho : Outside (Cut S1 W) W W1) (hl : Later W1 W2)
    (hr : RefAt (Plus (Cut S2 W) W2) g2 most ls' ids' W3) (ho2 : Outside (Cut S2 W) W2 W3) (hf : Fit most ls') (hok : ids'.all serverB = true) :
    PairN (Plus (Cut T W) W) g1 g2 most ls' ids' W3 ∧ Outside (Cut T W) W W3 := by
  have hs1 := ho.size
  have hs2 := hl.size
  refine ⟨⟨_, _, h.step hn ho hl hr ho2 hf hok, fun b hb => ?_⟩, ?_⟩
  · rcases hb with hb | hb
    · exact hb.1.imp (fun x => ⟨hT b (.inl x.1), x.2⟩) id
    · exact hb.imp (fun x => ⟨hT b (.inr x.1), x.2⟩) (fun x => Nat.le_trans (Nat.le_trans hs1 hs2) x)
  · exact ((ho.mono (T := Cut T W) fun b _ hb => ⟨hT b (.inl hb.1), hb.2⟩).trans (Outside.of_below (S := Cut T W) hl) (fun b _ hb => hb)).trans ho2 (fun b _ hb => ⟨hT b (.inr hb.1), hb.2⟩)
end
end Go.Proofs.Ytfhmdphcgcmaeaa
