/-
  A region that draws its order, in a class of worlds that its operations and callees do not leave: one walk, in the order of the text.
-/
import Derived.Test.YtoongmoajnedlaaGreatOut
import Derived.Deep.QuietTactic
import Derived.BigQuiet
import Derived.Deep.MidRow
import Derived.Laws.StructEq
set_option linter.unusedVariables false
set_option linter.unusedSimpArgs false
namespace Go.Proofs.YtoongmoajnedlaaGreat
open Go.RowKit

/-- A world that meets S. -/
structure InS (S : World → Prop) where
  w : World
  h : S w
theorem wp_region_calm {P : Program} {id : Nat} {Q : Exit → Act → World → Prop} {a : Act} {w : World} {l : List Oper} (S : World → Prop) (hm : P.follows .mixedOrders = true) (hB : Region.lexB .any l.toArray = true) (hS : S w.drew)
    (h : Nonempty (InS S) → wpQuiet P l.toArray (fun w' => ∃ p : InS S, w' = p.w) (fun a' => ∀ w', (∃ p : InS S, w' = p.w) → Q .normal a' w') l a) : (Code.region id l.toArray true).wp P Q a w :=
  wp_region_quiet (C := fun w' => ∃ p : InS S, w' = p.w) hm hB ⟨⟨_, hS⟩, rfl⟩ (by simpa using h ⟨⟨_, hS⟩⟩)
/-- A callee's contract, met in the class. -/
theorem calm_of {P : Program} {f : FuncId} {args : Array Value} {S : World → Prop} {p : InS S} {v : Value} {R : Ending → World → Prop} (h : Calls P f args p.w R) (hR : ∀ e w', R e w' → e = .returned v ∧ S w') :
    Calls P f args p.w fun e w'' => e = .returned v ∧ ∃ q : InS S, w'' = q.w :=
  h.mono fun e w' hr => ⟨(hR e w' hr).1, ⟨w', (hR e w' hr).2⟩, rfl⟩
section
variable {P : Program} {C : World → Prop} {o : Oper} {a : Act} {K : Act → Prop}
/-- An operation that hands back one value in each world of the class. -/
theorem quiet_run (v : Value) (h : ∀ w, C w → (execOp a.eval o).run P w = .ok (.value v) w) (hk : K (a.put o.dst v)) : o.quiet P a C K :=
  ⟨v, fun w hw => by unfold Oper.quietAt; rw [h w hw]; exact ⟨rfl, rfl⟩, hk⟩
theorem quiet_load_mid (ty : TypeId) (x : Operand) (ho : o.op = .load ty x) (b off : Nat) (hx : a.eval x = .pointer (some ⟨b, off, none⟩)) (cs : List Value) (d : TypeDesc) (hc : ∀ w, C w → w.rangeAt b off cs)
    (hu : P.underlying ty = some d) (hd : d.isRow = true) (hi : (P.info? ty).map (·.size) = some cs.length) (hk : K (a.put o.dst (.agg cs.toArray))) : o.quiet P a C K :=
  quiet_run _ (fun w hw => by
    unfold execOp
    simp only [ho, hx, Instr.loadAt, Instr.sureAddr, Sem.run_bind, Sem.run_pure, Result.andThen_ok, run_loadVar_mid w b off ty cs d (hc w hw) hu hd hi]) hk
/-- '==' of aggregates. -/
theorem quiet_eql (t t' : TypeId) (x y : Operand) (ho : o.op = .binOp .eql t x y t') (xs ys : Array Value) (hx : a.eval x = .agg xs) (hy : a.eval y = .agg ys) (r : Bool) (hm : P.eqGuardType P.depth t = false)
    (hr : ∀ w, (binOp .eql t (.agg xs) (.agg ys)).run P w = .ok (.bool r) w) (hk : K (a.put o.dst (.bool r))) : o.quiet P a C K :=
  quiet_run _ (fun w hw => by
    unfold execOp
    simp only [ho, hx, hy, Sem.run_bind, run_eqGuard_agg w .eql t x y xs ys hm, hr w, Sem.run_pure, Result.andThen_ok]) hk
end
end Go.Proofs.YtoongmoajnedlaaGreat
