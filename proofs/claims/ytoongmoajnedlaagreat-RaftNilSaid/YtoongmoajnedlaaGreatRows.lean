/-
  No cell of these rows narrows 'for every input' (looked for: loops, veiled, ifaces, maps, wideKeys, modest, calm, conditions, laid).
  DERIVED. THE GIVEN ROWS OF THIS SEAT. 6 by the template 'for every input the law returns true; each argument reads behind the call as it read before'; 0 by the template 'total and deterministic' (their statements: YtoongmoajnedlaaGreatTotals.lean).
  GIVEN WITH THE SEED: the statements are not yours to turn. If you find one false, say at which input.
  Laid BY PROGRAM, IN A SANDBOX (cutbox-rows.mjs): the forced cells as the released guide's own fill.sh prints them over the translation 3050662ed63beee5… (all of the seat's roots in one cut). By AI agents, Wed Nov 11 2026. No macro, syntax, notation, axiom, sorry.
-/
import Derived.Test.YtoongmoajnedlaaGreatChecked
import GoSem.Claim
import GoSem.ClaimJoined
import GoSem.ClaimMapViews
import Derived.JoinedTies
import Derived.KernelRfl
namespace Go.Proofs.YtoongmoajnedlaaGreat
/- THE CELL 'sum', in the pinned program and in every row, IS THE sha256 OF THE DUMP (.gsa) THAT YtoongmoajnedlaaGreatProg.lean LOADS. Nothing in Lean hashes anything: it is a label: what it is worth is what the hold of that sum in a sandbox is worth. -/
noncomputable def Tryz.pinned : Pinned := { name := "ytoongmoajnedlaagreat", sum := "3050662ed63beee5ff7d15739d8f19deb1760c765c4de753f89ba06182d0563a", checked := Tryz.checked }
namespace Rows
def none {H : Type} : Left H := { results := [], args := [] }

/-- 'hustingslaw15.RaftNever': WHATEVER THE INPUT: true; the input reads as it did. -/
def raftNeverSpec : ChangeSpec := { name := "raftNever", fn := fun _ => fun
  | [d1, d2, d3] => { results := [.lit (.bool true)], args := [d1, d2, d3] }
  | _ => none }
def raftNeverRow : OpenClaim := { program := "ytoongmoajnedlaagreat", sum := "3050662ed63beee5ff7d15739d8f19deb1760c765c4de753f89ba06182d0563a", func := "hustings/hustingslaw15.RaftNever", spec := "raftNever", unfollowed := true, recurses := true, apart := false }
def RaftNeverSaid : Prop := raftNeverRow.holds Tryz.pinned (OpenSpec.ofChange raftNeverSpec)

/-- ITS FALSE NEIGHBOUR: 'it returns false'. Refute it at one input. -/
def raftNeverWrong : ChangeSpec := { name := "raftNever", fn := fun _ => fun
  | [d1, d2, d3] => { results := [.lit (.bool false)], args := [d1, d2, d3] }
  | _ => none }
def RaftNeverWrongFalsely : Prop := raftNeverRow.holds Tryz.pinned (OpenSpec.ofChange raftNeverWrong)

/-- 'hustingslaw15.RaftSteady': WHATEVER THE INPUT: true; the input reads as it did. -/
def raftSteadySpec : ChangeSpec := { name := "raftSteady", fn := fun _ => fun
  | [d1, d2, d3, d4] => { results := [.lit (.bool true)], args := [d1, d2, d3, d4] }
  | _ => none }
def raftSteadyRow : OpenClaim := { program := "ytoongmoajnedlaagreat", sum := "3050662ed63beee5ff7d15739d8f19deb1760c765c4de753f89ba06182d0563a", func := "hustings/hustingslaw15.RaftSteady", spec := "raftSteady", unfollowed := true, recurses := true, apart := false }
def RaftSteadySaid : Prop := raftSteadyRow.holds Tryz.pinned (OpenSpec.ofChange raftSteadySpec)

/-- ITS FALSE NEIGHBOUR: 'it returns false'. Refute it at one input. -/
def raftSteadyWrong : ChangeSpec := { name := "raftSteady", fn := fun _ => fun
  | [d1, d2, d3, d4] => { results := [.lit (.bool false)], args := [d1, d2, d3, d4] }
  | _ => none }
def RaftSteadyWrongFalsely : Prop := raftSteadyRow.holds Tryz.pinned (OpenSpec.ofChange raftSteadyWrong)

/-- 'hustingslaw15.RaftNil': WHATEVER THE INPUT: true; the input reads as it did. -/
def raftNilSpec : ChangeSpec := { name := "raftNil", fn := fun _ => fun
  | [d1, d2, d3] => { results := [.lit (.bool true)], args := [d1, d2, d3] }
  | _ => none }
def raftNilRow : OpenClaim := { program := "ytoongmoajnedlaagreat", sum := "3050662ed63beee5ff7d15739d8f19deb1760c765c4de753f89ba06182d0563a", func := "hustings/hustingslaw15.RaftNil", spec := "raftNil", unfollowed := true, recurses := true, apart := false }
def RaftNilSaid : Prop := raftNilRow.holds Tryz.pinned (OpenSpec.ofChange raftNilSpec)

/-- ITS FALSE NEIGHBOUR: 'it returns false'. Refute it at one input. -/
def raftNilWrong : ChangeSpec := { name := "raftNil", fn := fun _ => fun
  | [d1, d2, d3] => { results := [.lit (.bool false)], args := [d1, d2, d3] }
  | _ => none }
def RaftNilWrongFalsely : Prop := raftNilRow.holds Tryz.pinned (OpenSpec.ofChange raftNilWrong)

/-- 'hustingslaw15.RaftCatches': WHATEVER THE INPUT: true; the input reads as it did. -/
def raftCatchesSpec : ChangeSpec := { name := "raftCatches", fn := fun _ => fun
  | [d1, d2] => { results := [.lit (.bool true)], args := [d1, d2] }
  | _ => none }
def raftCatchesRow : OpenClaim := { program := "ytoongmoajnedlaagreat", sum := "3050662ed63beee5ff7d15739d8f19deb1760c765c4de753f89ba06182d0563a", func := "hustings/hustingslaw15.RaftCatches", spec := "raftCatches", unfollowed := true, recurses := true, apart := false }
def RaftCatchesSaid : Prop := raftCatchesRow.holds Tryz.pinned (OpenSpec.ofChange raftCatchesSpec)

/-- ITS FALSE NEIGHBOUR: 'it returns false'. Refute it at one input. -/
def raftCatchesWrong : ChangeSpec := { name := "raftCatches", fn := fun _ => fun
  | [d1, d2] => { results := [.lit (.bool false)], args := [d1, d2] }
  | _ => none }
def RaftCatchesWrongFalsely : Prop := raftCatchesRow.holds Tryz.pinned (OpenSpec.ofChange raftCatchesWrong)

/-- 'hustingslaw15.RaftRefuses': WHATEVER THE INPUT: true; the input reads as it did. -/
def raftRefusesSpec : ChangeSpec := { name := "raftRefuses", fn := fun _ => fun
  | [d1, d2] => { results := [.lit (.bool true)], args := [d1, d2] }
  | _ => none }
def raftRefusesRow : OpenClaim := { program := "ytoongmoajnedlaagreat", sum := "3050662ed63beee5ff7d15739d8f19deb1760c765c4de753f89ba06182d0563a", func := "hustings/hustingslaw15.RaftRefuses", spec := "raftRefuses", unfollowed := true, recurses := true, apart := false }
def RaftRefusesSaid : Prop := raftRefusesRow.holds Tryz.pinned (OpenSpec.ofChange raftRefusesSpec)

/-- ITS FALSE NEIGHBOUR: 'it returns false'. Refute it at one input. -/
def raftRefusesWrong : ChangeSpec := { name := "raftRefuses", fn := fun _ => fun
  | [d1, d2] => { results := [.lit (.bool false)], args := [d1, d2] }
  | _ => none }
def RaftRefusesWrongFalsely : Prop := raftRefusesRow.holds Tryz.pinned (OpenSpec.ofChange raftRefusesWrong)

/-- 'hustingslaw15.RaftSettles': WHATEVER THE INPUT: true; the input reads as it did. -/
def raftSettlesSpec : ChangeSpec := { name := "raftSettles", fn := fun _ => fun
  | [d] => { results := [.lit (.bool true)], args := [d] }
  | _ => none }
def raftSettlesRow : OpenClaim := { program := "ytoongmoajnedlaagreat", sum := "3050662ed63beee5ff7d15739d8f19deb1760c765c4de753f89ba06182d0563a", func := "hustings/hustingslaw15.RaftSettles", spec := "raftSettles", unfollowed := true, recurses := true, apart := false }
def RaftSettlesSaid : Prop := raftSettlesRow.holds Tryz.pinned (OpenSpec.ofChange raftSettlesSpec)

/-- ITS FALSE NEIGHBOUR: 'it returns false'. Refute it at one input. -/
def raftSettlesWrong : ChangeSpec := { name := "raftSettles", fn := fun _ => fun
  | [d] => { results := [.lit (.bool false)], args := [d] }
  | _ => none }
def RaftSettlesWrongFalsely : Prop := raftSettlesRow.holds Tryz.pinned (OpenSpec.ofChange raftSettlesWrong)

/- THE SECOND FORM. 'bulk': how many values and letters a reading holds, each counted each time it is reached (what is shared counts as often as it is met; a slice's spare places count too). A statement '..UptoSaid' is the law's where the arguments, and the package variables that the reading takes, are together of bulk at most 1048576: NARROWER than '..Said'. Prove '..Said' where nothing that the law and all that it calls make is longer than what came in: it says more and counts as full. Else prove '..UptoSaid'. A law counts once. -/
mutual
def uptoBulk {H : Type} : DataW H → Nat
  | .lit (.string bytes) => bytes.length + 1
  | .lit _ => 1
  | .nil => 1
  | .ptr d => uptoBulk d + 1
  | .slice elems spare => uptoBulkAll elems + uptoBulkAll spare + 1
  | .agg parts => uptoBulkAll parts + 1
  | .iface _ d => uptoBulk d + 1
  | .map entries => uptoBulkEntries entries + 1
  | .held _ => 1
def uptoBulkAll {H : Type} : List (DataW H) → Nat
  | [] => 0
  | d :: r => uptoBulk d + uptoBulkAll r
def uptoBulkEntries {H : Type} : List (Lit × DataW H) → Nat
  | [] => 0
  | x :: r => uptoBulkEntry x + uptoBulkEntries r
def uptoBulkEntry {H : Type} : Lit × DataW H → Nat
  | (.string bytes, d) => bytes.length + uptoBulk d + 1
  | (_, d) => uptoBulk d + 1
 end
def uptoSmall : (H : Type) → List (DataW H) → Bool := fun _ ds => decide (uptoBulkAll ds ≤ 1048576)
def OpenSpec.upto (s : _root_.Go.ChangeSpec) : _root_.Go.OpenSpec := { _root_.Go.OpenSpec.ofChange s with cond := some uptoSmall }

/-- 'hustingslaw15.RaftNever', WHERE WHAT IT READS IS OF BULK AT MOST 1048576: true; the input reads as it did. -/
def raftNeverUptoRow : OpenClaim := { program := "ytoongmoajnedlaagreat", sum := "3050662ed63beee5ff7d15739d8f19deb1760c765c4de753f89ba06182d0563a", func := "hustings/hustingslaw15.RaftNever", spec := "raftNever", unfollowed := true, recurses := true, apart := false, narrowed := true }
def RaftNeverUptoSaid : Prop := raftNeverUptoRow.holds Tryz.pinned (OpenSpec.upto raftNeverSpec)

/-- 'hustingslaw15.RaftSteady', WHERE WHAT IT READS IS OF BULK AT MOST 1048576: true; the input reads as it did. -/
def raftSteadyUptoRow : OpenClaim := { program := "ytoongmoajnedlaagreat", sum := "3050662ed63beee5ff7d15739d8f19deb1760c765c4de753f89ba06182d0563a", func := "hustings/hustingslaw15.RaftSteady", spec := "raftSteady", unfollowed := true, recurses := true, apart := false, narrowed := true }
def RaftSteadyUptoSaid : Prop := raftSteadyUptoRow.holds Tryz.pinned (OpenSpec.upto raftSteadySpec)

/-- 'hustingslaw15.RaftNil', WHERE WHAT IT READS IS OF BULK AT MOST 1048576: true; the input reads as it did. -/
def raftNilUptoRow : OpenClaim := { program := "ytoongmoajnedlaagreat", sum := "3050662ed63beee5ff7d15739d8f19deb1760c765c4de753f89ba06182d0563a", func := "hustings/hustingslaw15.RaftNil", spec := "raftNil", unfollowed := true, recurses := true, apart := false, narrowed := true }
def RaftNilUptoSaid : Prop := raftNilUptoRow.holds Tryz.pinned (OpenSpec.upto raftNilSpec)

/-- 'hustingslaw15.RaftCatches', WHERE WHAT IT READS IS OF BULK AT MOST 1048576: true; the input reads as it did. -/
def raftCatchesUptoRow : OpenClaim := { program := "ytoongmoajnedlaagreat", sum := "3050662ed63beee5ff7d15739d8f19deb1760c765c4de753f89ba06182d0563a", func := "hustings/hustingslaw15.RaftCatches", spec := "raftCatches", unfollowed := true, recurses := true, apart := false, narrowed := true }
def RaftCatchesUptoSaid : Prop := raftCatchesUptoRow.holds Tryz.pinned (OpenSpec.upto raftCatchesSpec)

/-- 'hustingslaw15.RaftRefuses', WHERE WHAT IT READS IS OF BULK AT MOST 1048576: true; the input reads as it did. -/
def raftRefusesUptoRow : OpenClaim := { program := "ytoongmoajnedlaagreat", sum := "3050662ed63beee5ff7d15739d8f19deb1760c765c4de753f89ba06182d0563a", func := "hustings/hustingslaw15.RaftRefuses", spec := "raftRefuses", unfollowed := true, recurses := true, apart := false, narrowed := true }
def RaftRefusesUptoSaid : Prop := raftRefusesUptoRow.holds Tryz.pinned (OpenSpec.upto raftRefusesSpec)

/-- 'hustingslaw15.RaftSettles', WHERE WHAT IT READS IS OF BULK AT MOST 1048576: true; the input reads as it did. -/
def raftSettlesUptoRow : OpenClaim := { program := "ytoongmoajnedlaagreat", sum := "3050662ed63beee5ff7d15739d8f19deb1760c765c4de753f89ba06182d0563a", func := "hustings/hustingslaw15.RaftSettles", spec := "raftSettles", unfollowed := true, recurses := true, apart := false, narrowed := true }
def RaftSettlesUptoSaid : Prop := raftSettlesUptoRow.holds Tryz.pinned (OpenSpec.upto raftSettlesSpec)

end Rows
end Go.Proofs.YtoongmoajnedlaaGreat
