/-
  No cell of these rows narrows 'for every input' (looked for: loops, veiled, ifaces, maps, wideKeys, modest, calm, conditions, laid).
  DERIVED. THE GIVEN ROWS OF THIS SEAT. 6 by the template 'for every input the law returns true; each argument reads behind the call as it read before'; 0 by the template 'total and deterministic' (their statements: YtbnbeailbhnbdaaTotals.lean).
  GIVEN WITH THE SEED: the statements are not yours to turn. If you find one false, say at which input.
  Laid BY PROGRAM, IN A SANDBOX (cutbox-rows.mjs): the forced cells as the released guide's own fill.sh prints them over the translation 08cb2573e22f4bcf… (all of the seat's roots in one cut). By AI agents, Wed Nov 11 2026. No macro, syntax, notation, axiom, sorry.
-/
import Derived.Test.YtbnbeailbhnbdaaChecked
import GoSem.Claim
import GoSem.ClaimJoined
import GoSem.ClaimMapViews
import Derived.JoinedTies
import Derived.KernelRfl
namespace Go.Proofs.Ytbnbeailbhnbdaa
/- THE CELL 'sum', in the pinned program and in every row, IS THE sha256 OF THE DUMP (.gsa) THAT YtbnbeailbhnbdaaProg.lean LOADS. Nothing in Lean hashes anything: it is a label: what it is worth is what the hold of that sum in a sandbox is worth. -/
noncomputable def Try.pinned : Pinned := { name := "ytbnbeailbhnbdaa", sum := "08cb2573e22f4bcfb5c80f95f41cd9c67254e508cfa0859d5e3ac8b4be63ab32", checked := Try.checked }
namespace Rows
def none {H : Type} : Left H := { results := [], args := [] }

/-- 'hustingslaw19.HistoryModels': WHATEVER THE INPUT: true; the input reads as it did. -/
def historyModelsSpec : ChangeSpec := { name := "historyModels", fn := fun _ => fun
  | [d] => { results := [.lit (.bool true)], args := [d] }
  | _ => none }
def historyModelsRow : OpenClaim := { program := "ytbnbeailbhnbdaa", sum := "08cb2573e22f4bcfb5c80f95f41cd9c67254e508cfa0859d5e3ac8b4be63ab32", func := "hustings/hustingslaw19.HistoryModels", spec := "historyModels", unfollowed := true, recurses := true, apart := false }
def HistoryModelsSaid : Prop := historyModelsRow.holds Try.pinned (OpenSpec.ofChange historyModelsSpec)

/-- ITS FALSE NEIGHBOUR: 'it returns false'. Refute it at one input. -/
def historyModelsWrong : ChangeSpec := { name := "historyModels", fn := fun _ => fun
  | [d] => { results := [.lit (.bool false)], args := [d] }
  | _ => none }
def HistoryModelsWrongFalsely : Prop := historyModelsRow.holds Try.pinned (OpenSpec.ofChange historyModelsWrong)

/-- 'hustingslaw19.HistoryOne': WHATEVER THE INPUT: true; the input reads as it did. -/
def historyOneSpec : ChangeSpec := { name := "historyOne", fn := fun _ => fun
  | [d1, d2] => { results := [.lit (.bool true)], args := [d1, d2] }
  | _ => none }
def historyOneRow : OpenClaim := { program := "ytbnbeailbhnbdaa", sum := "08cb2573e22f4bcfb5c80f95f41cd9c67254e508cfa0859d5e3ac8b4be63ab32", func := "hustings/hustingslaw19.HistoryOne", spec := "historyOne", unfollowed := true, recurses := true, apart := false }
def HistoryOneSaid : Prop := historyOneRow.holds Try.pinned (OpenSpec.ofChange historyOneSpec)

/-- ITS FALSE NEIGHBOUR: 'it returns false'. Refute it at one input. -/
def historyOneWrong : ChangeSpec := { name := "historyOne", fn := fun _ => fun
  | [d1, d2] => { results := [.lit (.bool false)], args := [d1, d2] }
  | _ => none }
def HistoryOneWrongFalsely : Prop := historyOneRow.holds Try.pinned (OpenSpec.ofChange historyOneWrong)

/-- 'hustingslaw19.HistoryTime': WHATEVER THE INPUT: true; the input reads as it did. -/
def historyTimeSpec : ChangeSpec := { name := "historyTime", fn := fun _ => fun
  | [d1, d2] => { results := [.lit (.bool true)], args := [d1, d2] }
  | _ => none }
def historyTimeRow : OpenClaim := { program := "ytbnbeailbhnbdaa", sum := "08cb2573e22f4bcfb5c80f95f41cd9c67254e508cfa0859d5e3ac8b4be63ab32", func := "hustings/hustingslaw19.HistoryTime", spec := "historyTime", unfollowed := true, recurses := true, apart := false }
def HistoryTimeSaid : Prop := historyTimeRow.holds Try.pinned (OpenSpec.ofChange historyTimeSpec)

/-- ITS FALSE NEIGHBOUR: 'it returns false'. Refute it at one input. -/
def historyTimeWrong : ChangeSpec := { name := "historyTime", fn := fun _ => fun
  | [d1, d2] => { results := [.lit (.bool false)], args := [d1, d2] }
  | _ => none }
def HistoryTimeWrongFalsely : Prop := historyTimeRow.holds Try.pinned (OpenSpec.ofChange historyTimeWrong)

/-- 'hustingslaw19.HistoryMade': WHATEVER THE INPUT: true; the input reads as it did. -/
def historyMadeSpec : ChangeSpec := { name := "historyMade", fn := fun _ => fun
  | [d1, d2, d3] => { results := [.lit (.bool true)], args := [d1, d2, d3] }
  | _ => none }
def historyMadeRow : OpenClaim := { program := "ytbnbeailbhnbdaa", sum := "08cb2573e22f4bcfb5c80f95f41cd9c67254e508cfa0859d5e3ac8b4be63ab32", func := "hustings/hustingslaw19.HistoryMade", spec := "historyMade", unfollowed := true, recurses := true, apart := false }
def HistoryMadeSaid : Prop := historyMadeRow.holds Try.pinned (OpenSpec.ofChange historyMadeSpec)

/-- ITS FALSE NEIGHBOUR: 'it returns false'. Refute it at one input. -/
def historyMadeWrong : ChangeSpec := { name := "historyMade", fn := fun _ => fun
  | [d1, d2, d3] => { results := [.lit (.bool false)], args := [d1, d2, d3] }
  | _ => none }
def HistoryMadeWrongFalsely : Prop := historyMadeRow.holds Try.pinned (OpenSpec.ofChange historyMadeWrong)

/-- 'hustingslaw19.HistoryMore': WHATEVER THE INPUT: true; the input reads as it did. -/
def historyMoreSpec : ChangeSpec := { name := "historyMore", fn := fun _ => fun
  | [d1, d2, d3] => { results := [.lit (.bool true)], args := [d1, d2, d3] }
  | _ => none }
def historyMoreRow : OpenClaim := { program := "ytbnbeailbhnbdaa", sum := "08cb2573e22f4bcfb5c80f95f41cd9c67254e508cfa0859d5e3ac8b4be63ab32", func := "hustings/hustingslaw19.HistoryMore", spec := "historyMore", unfollowed := true, recurses := true, apart := false }
def HistoryMoreSaid : Prop := historyMoreRow.holds Try.pinned (OpenSpec.ofChange historyMoreSpec)

/-- ITS FALSE NEIGHBOUR: 'it returns false'. Refute it at one input. -/
def historyMoreWrong : ChangeSpec := { name := "historyMore", fn := fun _ => fun
  | [d1, d2, d3] => { results := [.lit (.bool false)], args := [d1, d2, d3] }
  | _ => none }
def HistoryMoreWrongFalsely : Prop := historyMoreRow.holds Try.pinned (OpenSpec.ofChange historyMoreWrong)

/-- 'hustingslaw19.HistoryLegal': WHATEVER THE INPUT: true; the input reads as it did. -/
def historyLegalSpec : ChangeSpec := { name := "historyLegal", fn := fun _ => fun
  | [d1, d2] => { results := [.lit (.bool true)], args := [d1, d2] }
  | _ => none }
def historyLegalRow : OpenClaim := { program := "ytbnbeailbhnbdaa", sum := "08cb2573e22f4bcfb5c80f95f41cd9c67254e508cfa0859d5e3ac8b4be63ab32", func := "hustings/hustingslaw19.HistoryLegal", spec := "historyLegal", unfollowed := true, recurses := true, apart := false }
def HistoryLegalSaid : Prop := historyLegalRow.holds Try.pinned (OpenSpec.ofChange historyLegalSpec)

/-- ITS FALSE NEIGHBOUR: 'it returns false'. Refute it at one input. -/
def historyLegalWrong : ChangeSpec := { name := "historyLegal", fn := fun _ => fun
  | [d1, d2] => { results := [.lit (.bool false)], args := [d1, d2] }
  | _ => none }
def HistoryLegalWrongFalsely : Prop := historyLegalRow.holds Try.pinned (OpenSpec.ofChange historyLegalWrong)

/- THE SECOND FORM. 'bulk': how many values and letters a reading holds, each counted each time it is reached (what is shared counts as often as it is met; a slice's spare places count too). A statement '..UptoSaid' is the law's where the arguments, and the package variables that the reading takes, are together of bulk at most 1048576: NARROWER than '..Said'. Prove '..Said' where nothing that the law and all that it calls make is longer than what came in: it says more and counts as full. Else prove '..UptoSaid'. A law counts once. -/
mutual
def uptoBulk {H : Type} : DataW H → Nat
  | .lit (.string bytes) => bytes.length + 1
  | .lit _ => 1
  | .nil => 1
  | .ptr d => uptoBulk d + 1
  | .slice elems spare => uptoBulkAll elems + uptoBulkAll spare + 1
  | .agg parts => uptoBulkAll parts + 1
  | .iface _ d => uptoBulk d + 1
  | .map entries => uptoBulkEntries entries + 1
  | .held _ => 1
def uptoBulkAll {H : Type} : List (DataW H) → Nat
  | [] => 0
  | d :: r => uptoBulk d + uptoBulkAll r
def uptoBulkEntries {H : Type} : List (Lit × DataW H) → Nat
  | [] => 0
  | x :: r => uptoBulkEntry x + uptoBulkEntries r
def uptoBulkEntry {H : Type} : Lit × DataW H → Nat
  | (.string bytes, d) => bytes.length + uptoBulk d + 1
  | (_, d) => uptoBulk d + 1
 end
def uptoSmall : (H : Type) → List (DataW H) → Bool := fun _ ds => decide (uptoBulkAll ds ≤ 1048576)
def OpenSpec.upto (s : _root_.Go.ChangeSpec) : _root_.Go.OpenSpec := { _root_.Go.OpenSpec.ofChange s with cond := some uptoSmall }

/-- 'hustingslaw19.HistoryModels', WHERE WHAT IT READS IS OF BULK AT MOST 1048576: true; the input reads as it did. -/
def historyModelsUptoRow : OpenClaim := { program := "ytbnbeailbhnbdaa", sum := "08cb2573e22f4bcfb5c80f95f41cd9c67254e508cfa0859d5e3ac8b4be63ab32", func := "hustings/hustingslaw19.HistoryModels", spec := "historyModels", unfollowed := true, recurses := true, apart := false, narrowed := true }
def HistoryModelsUptoSaid : Prop := historyModelsUptoRow.holds Try.pinned (OpenSpec.upto historyModelsSpec)

/-- 'hustingslaw19.HistoryOne', WHERE WHAT IT READS IS OF BULK AT MOST 1048576: true; the input reads as it did. -/
def historyOneUptoRow : OpenClaim := { program := "ytbnbeailbhnbdaa", sum := "08cb2573e22f4bcfb5c80f95f41cd9c67254e508cfa0859d5e3ac8b4be63ab32", func := "hustings/hustingslaw19.HistoryOne", spec := "historyOne", unfollowed := true, recurses := true, apart := false, narrowed := true }
def HistoryOneUptoSaid : Prop := historyOneUptoRow.holds Try.pinned (OpenSpec.upto historyOneSpec)

/-- 'hustingslaw19.HistoryTime', WHERE WHAT IT READS IS OF BULK AT MOST 1048576: true; the input reads as it did. -/
def historyTimeUptoRow : OpenClaim := { program := "ytbnbeailbhnbdaa", sum := "08cb2573e22f4bcfb5c80f95f41cd9c67254e508cfa0859d5e3ac8b4be63ab32", func := "hustings/hustingslaw19.HistoryTime", spec := "historyTime", unfollowed := true, recurses := true, apart := false, narrowed := true }
def HistoryTimeUptoSaid : Prop := historyTimeUptoRow.holds Try.pinned (OpenSpec.upto historyTimeSpec)

/-- 'hustingslaw19.HistoryMade', WHERE WHAT IT READS IS OF BULK AT MOST 1048576: true; the input reads as it did. -/
def historyMadeUptoRow : OpenClaim := { program := "ytbnbeailbhnbdaa", sum := "08cb2573e22f4bcfb5c80f95f41cd9c67254e508cfa0859d5e3ac8b4be63ab32", func := "hustings/hustingslaw19.HistoryMade", spec := "historyMade", unfollowed := true, recurses := true, apart := false, narrowed := true }
def HistoryMadeUptoSaid : Prop := historyMadeUptoRow.holds Try.pinned (OpenSpec.upto historyMadeSpec)

/-- 'hustingslaw19.HistoryMore', WHERE WHAT IT READS IS OF BULK AT MOST 1048576: true; the input reads as it did. -/
def historyMoreUptoRow : OpenClaim := { program := "ytbnbeailbhnbdaa", sum := "08cb2573e22f4bcfb5c80f95f41cd9c67254e508cfa0859d5e3ac8b4be63ab32", func := "hustings/hustingslaw19.HistoryMore", spec := "historyMore", unfollowed := true, recurses := true, apart := false, narrowed := true }
def HistoryMoreUptoSaid : Prop := historyMoreUptoRow.holds Try.pinned (OpenSpec.upto historyMoreSpec)

/-- 'hustingslaw19.HistoryLegal', WHERE WHAT IT READS IS OF BULK AT MOST 1048576: true; the input reads as it did. -/
def historyLegalUptoRow : OpenClaim := { program := "ytbnbeailbhnbdaa", sum := "08cb2573e22f4bcfb5c80f95f41cd9c67254e508cfa0859d5e3ac8b4be63ab32", func := "hustings/hustingslaw19.HistoryLegal", spec := "historyLegal", unfollowed := true, recurses := true, apart := false, narrowed := true }
def HistoryLegalUptoSaid : Prop := historyLegalUptoRow.holds Try.pinned (OpenSpec.upto historyLegalSpec)

end Rows
end Go.Proofs.Ytbnbeailbhnbdaa
