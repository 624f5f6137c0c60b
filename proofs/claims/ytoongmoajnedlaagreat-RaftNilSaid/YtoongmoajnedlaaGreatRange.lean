/-
  A range over a function whose values are known ahead, one by one: the iterator's contract, which may turn cells of its own between two rounds, and the caller's law. (After the library's law on loops over iterators, Derived/RangeFuncNested, whose steps are used.)
-/
import Derived.RangeFuncNested
import Derived.RangeFuncBound
import Derived.RangeFuncCalls
import Derived.RangeFuncLeaves
import Derived.WalkKit
import Derived.OwnWalkIn
import Derived.TacticsInMore
import Derived.LoopNIn
import Derived.LoopIn
import Derived.Test.YtoongmoajnedlaaGreatLib
set_option linter.unusedVariables false
set_option linter.unusedSimpArgs false
namespace Go.Proofs.YtoongmoajnedlaaGreat
open Go.RowKit

variable {P : Program}

/-- What the iterator itself may do between two rounds: lay blocks, and its own steps St. -/
def Bides (St : World → World → Prop) (J : Nat → World → Prop) : Prop :=
  (∀ k A B, J k A → A.grownBy B none → J k B) ∧ (∀ k A B, J k A → St A B → J k B)

/-- These blocks lie as they lay. -/
def KeptOn (Kb : Nat → Prop) (A B : World) : Prop := A.heap.size ≤ B.heap.size ∧ ∀ b, Kb b → B.heap[b]? = A.heap[b]?
theorem KeptOn.refl (Kb : Nat → Prop) (A : World) : KeptOn Kb A A := ⟨Nat.le_refl _, fun _ _ => rfl⟩
theorem KeptOn.trans {Kb : Nat → Prop} {A B C : World} (h : KeptOn Kb A B) (k : KeptOn Kb B C) : KeptOn Kb A C := ⟨Nat.le_trans h.1 k.1, fun b hb => (k.2 b hb).trans (h.2 b hb)⟩
theorem KeptOn.putObj {Kb : Nat → Prop} {W : World} {l : Nat} {o' : Obj} (hl : ¬ Kb l) : KeptOn Kb W (W.putObj l o') := ⟨(grownBy_putObj' W l o').size, fun b hb => World.putObj_heap_other (by intro e; subst e; exact hl hb)⟩
theorem KeptOn.below {Kb : Nat → Prop} {A B : World} {n : Nat} (h : Below n A B) (hk : ∀ b, Kb b → b < n) : KeptOn Kb A B := ⟨h.size, fun b hb => h.block b (hk b hb)⟩
theorem KeptOn.grown {Kb : Nat → Prop} {A B : World} {row : Option Nat} (h : A.grownBy B row) (hk : ∀ b, Kb b → b < A.heap.size ∧ some b ≠ row) : KeptOn Kb A B := ⟨h.size, fun b hb => h.block b (hk b hb).1 (hk b hb).2⟩
theorem KeptOn.set {Kb : Nat → Prop} {A : World} {p : Addr} (v : Value) (hk : ¬ Kb p.block) : KeptOn Kb A (A.setCell p v) := ⟨by simp [World.setCell], fun b hb => Below.heap_setCell _ _ _ _ (by intro e; subst e; exact hk hb)⟩
theorem KeptOn.alloc {Kb : Nat → Prop} {A : World} (o : Obj) (hk : ∀ b, Kb b → b < A.heap.size) : KeptOn Kb A (A.alloc o) := ⟨by simp, fun b hb => Below.heap_alloc _ _ _ (hk b hb)⟩
theorem KeptOn.cell {Kb : Nat → Prop} {A B : World} (h : KeptOn Kb A B) {p : Addr} (hp : Kb p.block) : B.cell? p = A.cell? p := World.cell?_of_block (h.2 _ hp)
theorem KeptOn.frozen {Kb : Nat → Prop} {A B : World} (h : KeptOn Kb A B) {p : Addr} (hp : Kb p.block) : B.frozen? p = A.frozen? p := World.frozen?_of_block (h.2 _ hp)

/-- THE ITERATOR's CONTRACT: it hands over these values, one by one, each as 'enc' says; a round that goes on leaves the blocks Kb. -/
def SeqX {α : Type} (P : Program) (gf : Nat) (lb : Array Value) (enc : Nat → α → Array Value → World → Prop) (xs : List α) (St : World → World → Prop) (Kb : Nat → Prop) (w : World) : Prop :=
  ∀ (l : Nat) (J Jx : Nat → World → Prop) (W : World), Below w.heap.size w W → Bides St J → Bides St Jx →
    (∀ k x W1 args, J k W1 → xs[k]? = some x → enc k x args W1 → YieldAt Fence.wide 0 P l args W1 fun e W' =>
      (e = .returned (.bool true) ∧ J (k + 1) W' ∧ KeptOn Kb W1 W') ∨ (e = .returned (.bool false) ∧ Jx (k + 1) W')) →
    J 0 W →
    CallsIn Fence.wide 0 P gf (#[.func (.yield l) #[] #[]] ++ lb) W fun e W' => (∃ v, e = .returned v) ∧ (J xs.length W' ∨ ∃ k, k ≤ xs.length ∧ Jx k W')

/-- How the body of a round may be left. -/
def roundX (B : Nat) (Kb : Nat → Prop) (I : Nat → World → Prop) (Ix : Code → Nat → World → Prop) (k : Nat) (W : World) : Exit → Act → World → Prop
  | .normal, _, W' => KeepsFrom B W W' ∧ KeptOn Kb W W' ∧ I (k + 1) W'
  | .ret, _, W' => KeepsFrom B W W' ∧ Ix .ret (k + 1) W'
  | .exit id, _, W' => KeepsFrom B W W' ∧ Ix (.exit id) (k + 1) W'
  | .goto t, _, W' => KeepsFrom B W W' ∧ Ix (.goto t) (k + 1) W'
  | .panic _, _, _ => False
  | .outgrown, _, _ => False

theorem below_putObj {n0 : Nat} {W : World} {l : Nat} {o o' : Obj} (hn : n0 ≤ l) (h : W.heap[l]? = some o) : Below n0 W (W.putObj l o') :=
  (Below.refl n0 W).grown (grownBy_putObj' W l o') (by have := (Array.getElem?_eq_some_iff.1 h).1; omega) (fun k e => by cases e; exact hn)

theorem wp_rangeX {α : Type} {g : Operand} {ps : Array Tmp} {assign body : Code} {Q : Exit → Act → World → Prop} {a : Act} {w : World}
    {gf : Nat} {lb : Array Value} (hg : a.eval g = .func (.func gf) #[] lb) (eg : ∀ args w, (callFunc gf args).run P w = .ok (.enter gf args) w)
    {enc : Nat → α → Array Value → World → Prop} {xs : List α} {St : World → World → Prop} {Kb : Nat → Prop} {w0 : World} (hseq : SeqX P gf lb enc xs St Kb w0)
    (hSt : ∀ (A B : World) (k : Nat) (o : Obj), St A B → A.heap[k]? = some o → o.isCells = false → B.heap[k]? = some o)
    (hKb : ∀ b, Kb b → b < w.heap.size) (hb0 : Below w0.heap.size w0 w) (hps : ∀ k x args W, enc k x args W → args.size = ps.size)
    (I : Nat → World → Prop) (Ix : Code → Nat → World → Prop) (hI : OwnFrom w.heap.size I) (hIx : ∀ c, OwnFrom w.heap.size (Ix c)) (hIs : ∀ k A B, I k A → St A B → I k B) (hIxs : ∀ c k A B, Ix c k A → St A B → Ix c k B)
    (h0 : I 0 w) (Ax : Nat → Act → World → Prop) (hAx : ∀ k a', OwnFrom w.heap.size (fun (_ : Unit) W => Ax k a' W))
    (hassign : ∀ (l k : Nat) (x : α) (args : Array Value) (W : World) (K : Act → World → Prop), xs[k]? = some x → enc k x args W → I k W → (∀ a' W', KeepsFrom w.heap.size W W' → KeptOn Kb W W' → I k W' → Ax k a' W' → K a' W') →
      assign.wpIn (Fence.wide.inRound l) 0 P (Exit.then K (fun _ _ _ => False)) { tmps := (ps.zip args).foldl (fun t (p, v) => t.setIfInBounds p v) a.tmps, defers := [] } W)
    (hbody : ∀ (l k : Nat) (x : α) (a' : Act) (W : World), xs[k]? = some x → I k W → Ax k a' W → body.wpIn (Fence.wide.inRound l) 0 P (roundX w.heap.size Kb I Ix k W) a' W)
    (hdone : ∀ (D : Nat) (W : World), w.heap.size ≤ D → I xs.length W → W.heap[D]? = some (.deferred (some [])) → Q .normal { a with defers := { target := .collected D, args := #[] } :: a.defers } W)
    (hstop : ∀ (D : Nat) (c : Code) (k : Nat) (W : World), w.heap.size ≤ D → k ≤ xs.length → Ix c k W → W.heap[D]? = some (.deferred (some [])) → c.wpIn Fence.wide 0 P Q { a with defers := { target := .collected D, args := #[] } :: a.defers } W) :
    (Code.rangeFunc g ps assign body).wpIn Fence.wide 0 P Q a w := by
  refine wpIn_rangeFunc ?_
  intro fn hfn
  obtain ⟨rec, hrec⟩ : ∃ rec : LoopState → Option Code → Loop, rec = fun st pe => { state := st, pending := pe, fn, tmps := a.tmps, params := ps, assign, body, defers := w.heap.size } := ⟨_, rfl⟩
  obtain ⟨W1, hW1⟩ : ∃ W1, (w.alloc (.deferred (some []))).alloc (.loop (rec .ready none)) = W1 := ⟨_, rfl⟩
  have hL1 : W1.heap[w.heap.size + 1]? = some (.loop (rec .ready none)) := by
    rw [← hW1]; have := World.alloc_heap_new (w.alloc (.deferred (some []))) (.loop (rec .ready none)); rwa [World.size_alloc] at this
  have hK1 : W1.heap[w.heap.size]? = some (.deferred (some [])) := by
    rw [← hW1]; exact (Below.heap_alloc _ _ _ (by simp)).trans (World.alloc_heap_new w _)
  have hI1 : I 0 W1 := by rw [← hW1]; exact hI.alloc _ (hI.alloc _ h0)
  have hb1 : Below w0.heap.size w0 W1 := by
    rw [← hW1]; exact hb0.trans ((((Below.refl _ w).alloc (Nat.le_refl _) _).alloc (by simp) _).mono hb0.size)
  have hst : ∀ {A B : World} {k : Nat} {o : Obj}, A.grownBy B none → A.heap[k]? = some o → B.heap[k]? = some o := fun hg' h => (hg'.block _ (Array.getElem?_eq_some_iff.1 h).1 (by simp)).trans h
  refine ⟨w.heap.size + 1, [{ target := .collected w.heap.size, args := #[] }], W1, { target := .fn (.func gf) lb, args := #[.func (.yield (w.heap.size + 1)) #[] #[]] }, W1, gf,
    #[.func (.yield (w.heap.size + 1)) #[] #[]] ++ lb, W1, ?_, ?_, fun _ _ => trivial, ?_, fun h => by simp [Fence.wide] at h, ?_⟩
  · rw [← hW1, hrec]; exact run_enterLoop_outer _ _ _ _ _
  · simp only [resolve, hg]
    simp [go_sem]
  · simp [invoke, go_sem, eg]
  · refine (hseq (w.heap.size + 1)
      (fun k W => I k W ∧ W.heap[w.heap.size + 1]? = some (.loop (rec .ready none)) ∧ W.heap[w.heap.size]? = some (.deferred (some [])))
      (fun k W => ∃ c, Ix c k W ∧ W.heap[w.heap.size + 1]? = some (.loop (rec .done (some c))) ∧ W.heap[w.heap.size]? = some (.deferred (some [])))
      W1 hb1
      ⟨fun k A B hs hg' => ⟨hI k A B none hs.1 hg' (fun r e => by cases e), hst hg' hs.2.1, hst hg' hs.2.2⟩, fun k A B hs hs' => ⟨hIs k A B hs.1 hs', hSt A B _ _ hs' hs.2.1 rfl, hSt A B _ _ hs' hs.2.2 rfl⟩⟩
      ⟨fun k A B hs hg' => by obtain ⟨c, hc, hl, hk⟩ := hs; exact ⟨c, hIx c k A B none hc hg' (fun r e => by cases e), hst hg' hl, hst hg' hk⟩,
       fun k A B hs hs' => by obtain ⟨c, hc, hl, hk⟩ := hs; exact ⟨c, hIxs c k A B hc hs', hSt A B _ _ hs' hl rfl, hSt A B _ _ hs' hk rfl⟩⟩
      ?_ ⟨hI1, hL1, hK1⟩).mono ?_
    · -- one round
      rintro k x W args ⟨hi, hl, hk⟩ hx henc
      have hlt : w.heap.size + 1 < W.heap.size := (Array.getElem?_eq_some_iff.1 hl).1
      have hy := run_yield (P := P) (args := args) hl (by rw [hrec]; exact hps k x args W henc)
      rw [hrec] at hy
      refine ⟨fn, _, assign, body, hy, roundIn_of_wpIn hfn (hassign _ k x args W _ hx henc hi ?_)⟩
      clear hy
      intro a' Wa hkfa hkpa hia hax
      replace hl := hkfa.same _ _ (by omega) hl rfl
      replace hk := hkfa.same _ _ (Nat.le_refl _) hk rfl
      replace hlt : w.heap.size + 1 < Wa.heap.size := (Array.getElem?_eq_some_iff.1 hl).1
      clear hi
      refine ⟨_, run_beginRound hl (by rw [hrec]), ?_⟩
      have hl2 : (Wa.putObj (w.heap.size + 1) (.loop { rec .ready none with state := .busy })).heap[w.heap.size + 1]? = some (.loop { rec .ready none with state := .busy }) := World.putObj_heap_same hlt
      have hk2 : (Wa.putObj (w.heap.size + 1) (.loop { rec .ready none with state := .busy })).heap[w.heap.size]? = some (.deferred (some [])) := (World.putObj_heap_other (by omega)).trans hk
      have hw2 : KeptOn Kb Wa (Wa.putObj (w.heap.size + 1) (.loop { rec .ready none with state := .busy })) := KeptOn.putObj (fun h => by have := hKb _ h; omega)
      refine wpIn_mono (hbody _ k x a' _ hx (hI.putObj _ hia (by omega) hl rfl) ((hAx k a').putObj (s := ()) _ hax (by omega) hl rfl)) ?_
      have fin : ∀ (jump : Option Code) (W3 : World), KeepsFrom w.heap.size (Wa.putObj (w.heap.size + 1) (.loop { rec .ready none with state := .busy })) W3 →
          (Instr.endRound (w.heap.size + 1) jump).run P W3 = .ok (.bool jump.isNone) (W3.putObj (w.heap.size + 1) (.loop (rec (if jump.isNone then .ready else .done) jump))) ∧
          W3.heap[w.heap.size + 1]? = some (.loop { rec .ready none with state := .busy }) ∧
          (W3.putObj (w.heap.size + 1) (.loop (rec (if jump.isNone then .ready else .done) jump))).heap[w.heap.size + 1]? = some (.loop (rec (if jump.isNone then .ready else .done) jump)) ∧
          (W3.putObj (w.heap.size + 1) (.loop (rec (if jump.isNone then .ready else .done) jump))).heap[w.heap.size]? = some (.deferred (some [])) := fun jump W3 hk3 => by
        have hl3 := hk3.same _ _ (by omega) hl2 rfl
        have := run_endRound (P := P) jump hl3
        rw [hrec] at this ⊢
        exact ⟨this, by rw [hrec] at hl3; exact hl3, World.putObj_heap_same (Array.getElem?_eq_some_iff.1 hl3).1, (World.putObj_heap_other (by omega)).trans (hk3.same _ _ (Nat.le_refl _) hk2 rfl)⟩
      rintro e a3 W3 hp
      cases e with
      | normal =>
        obtain ⟨hk3, hkp3, hi3⟩ := hp
        obtain ⟨hr, hl3, hl4, hk4⟩ := fin none W3 hk3
        exact ⟨_, _, hr, .inl ⟨rfl, ⟨hI.putObj _ hi3 (by omega) hl3 rfl, hl4, hk4⟩, hkpa.trans ((hw2.trans hkp3).trans (KeptOn.putObj (fun h => by have := hKb _ h; omega)))⟩⟩
      | ret =>
        obtain ⟨hk3, hi3⟩ := hp
        obtain ⟨hr, hl3, hl4, hk4⟩ := fin (some .ret) W3 hk3
        exact ⟨_, _, hr, .inr ⟨rfl, .ret, (hIx _).putObj _ hi3 (by omega) hl3 rfl, hl4, hk4⟩⟩
      | exit id =>
        obtain ⟨hk3, hi3⟩ := hp
        obtain ⟨hr, hl3, hl4, hk4⟩ := fin (some (.exit id)) W3 hk3
        exact ⟨_, _, hr, .inr ⟨rfl, .exit id, (hIx _).putObj _ hi3 (by omega) hl3 rfl, hl4, hk4⟩⟩
      | goto t =>
        obtain ⟨hk3, hi3⟩ := hp
        obtain ⟨hr, hl3, hl4, hk4⟩ := fin (some (.goto t)) W3 hk3
        exact ⟨_, _, hr, .inr ⟨rfl, .goto t, (hIx _).putObj _ hi3 (by omega) hl3 rfl, hl4, hk4⟩⟩
      | panic ch => exact hp.elim
      | outgrown => exact hp.elim
    · -- behind the iterator
      rintro e W2 ⟨⟨v, rfl⟩, (⟨hi, hl, hk⟩ | ⟨k, hkl, c, hi, hl, hk⟩)⟩
      · exact ⟨none, _, by have := run_endLoop (P := P) hl (by rw [hrec]; simp); rw [hrec] at this; exact this, hdone _ _ (Nat.le_refl _) (hI.putObj _ hi (by omega) hl rfl) ((World.putObj_heap_other (by omega)).trans hk)⟩
      · exact ⟨some c, _, by have := run_endLoop (P := P) hl (by rw [hrec]; simp); rw [hrec] at this; exact this, hstop _ c k _ (Nat.le_refl _) hkl ((hIx c).putObj _ hi (by omega) hl rfl) ((World.putObj_heap_other (by omega)).trans hk)⟩
/-- What turns no cells but those of block X, and nothing below n. -/
structure Mild (n X : Nat) (A B : World) : Prop where
  os : B.os = A.os
  tape : B.tape = A.tape
  output : B.output = A.output
  size : A.heap.size ≤ B.heap.size
  cells : ∀ b o, A.heap[b]? = some o → o.isCells = true → b ≠ X → B.heap[b]? = some o
  low : ∀ b, b < n → b < A.heap.size → B.heap[b]? = A.heap[b]?
theorem Mild.of_grown {n X : Nat} {A B : World} {row : Option Nat} (h : A.grownBy B row) (hr : ∀ r, row = some r → n ≤ r ∧ ∃ o : Obj, A.heap[r]? = some o ∧ o.isCells = false) : Mild n X A B :=
  ⟨h.os, h.tape, h.output, h.size, fun b o hb hc _ => (h.block b (Array.getElem?_eq_some_iff.1 hb).1 (fun e => by obtain ⟨_, o', ho', hc'⟩ := hr b e.symm; rw [hb] at ho'; cases ho'; rw [hc] at hc'; cases hc')).trans hb,
   fun b hb hs => h.block b hs (fun e => by have := (hr b e.symm).1; omega)⟩
theorem Mild.of_set {n X : Nat} {A : World} {p : Addr} (v : Value) (hp : p.block = X) (hX : n ≤ X) : Mild n X A (A.setCell p v) :=
  ⟨rfl, rfl, rfl, by simp [World.setCell], fun b o hb _ hne => (Below.heap_setCell A p v b (by omega)).trans hb, fun b hb _ => Below.heap_setCell A p v b (by omega)⟩
theorem Mild.box {n X : Nat} {A B : World} (h : Mild n X A B) {b : Nat} {t : TypeId} {v : Value} (hb : Box A b t v) (hne : b ≠ X) : Box B b t v := h.cells b _ hb rfl hne
theorem Mild.own {n X : Nat} {A B : World} (h : Mild n X A B) {base m size : Nat} {e : TypeId} {v : Value} {xs : List Value} (ho : A.ownsRow base e size v m xs) (hX : X < base) : B.ownsRow base e size v m xs := by
  obtain ⟨h1, h2⟩ := ho
  refine ⟨h1, ?_⟩
  rcases h2 with h2 | ⟨g, cap, cur, hv, hg, hh, r⟩
  · exact .inl h2
  · exact .inr ⟨g, cap, cur, hv, hg, h.cells g _ hh rfl (by omega), r⟩
theorem Mild.below {n X : Nat} {w A B : World} (h : Mild n X A B) (hb : Below n w A) (hn : n ≤ w.heap.size) : Below n w B :=
  hb.trans ⟨h.os, h.tape, h.output, h.size, fun b hlt => h.low b hlt (by have := hb.size; omega)⟩
end Go.Proofs.YtoongmoajnedlaaGreat
