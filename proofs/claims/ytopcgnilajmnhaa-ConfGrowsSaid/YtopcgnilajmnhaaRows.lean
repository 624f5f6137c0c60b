/-
  No cell of these rows narrows 'for every input' (looked for: loops, veiled, ifaces, maps, wideKeys, modest, calm, conditions, laid).
  DERIVED. THE GIVEN ROWS OF THIS SEAT. 7 by the template 'for every input the law returns true; each argument reads behind the call as it read before'; 0 by the template 'total and deterministic' (their statements: YtopcgnilajmnhaaTotals.lean).
  GIVEN WITH THE SEED: the statements are not yours to turn. If you find one false, say at which input.
  Laid BY PROGRAM, IN A SANDBOX (cutbox-rows.mjs): the forced cells as the released guide's own fill.sh prints them over the translation 96bddfb0be11e72d… (all of the seat's roots in one cut). By AI agents, Wed Nov 11 2026. No macro, syntax, notation, axiom, sorry.
-/
import Derived.Test.YtopcgnilajmnhaaChecked
import GoSem.Claim
import GoSem.ClaimJoined
import GoSem.ClaimMapViews
import Derived.JoinedTies
import Derived.KernelRfl
namespace Go.Proofs.Ytopcgnilajmnhaa
/- THE CELL 'sum', in the pinned program and in every row, IS THE sha256 OF THE DUMP (.gsa) THAT YtopcgnilajmnhaaProg.lean LOADS. Nothing in Lean hashes anything: it is a label: what it is worth is what the hold of that sum in a sandbox is worth. -/
noncomputable def Try.pinned : Pinned := { name := "ytopcgnilajmnhaa", sum := "96bddfb0be11e72d2fcdef86e73077010862cb721a153137d7059a6b851bf734", checked := Try.checked }
namespace Rows
def none {H : Type} : Left H := { results := [], args := [] }

/-- 'hustingslaw11.ConfBeside': WHATEVER THE INPUT: true; the input reads as it did. -/
def confBesideSpec : ChangeSpec := { name := "confBeside", fn := fun _ => fun
  | [d1, d2] => { results := [.lit (.bool true)], args := [d1, d2] }
  | _ => none }
def confBesideRow : OpenClaim := { program := "ytopcgnilajmnhaa", sum := "96bddfb0be11e72d2fcdef86e73077010862cb721a153137d7059a6b851bf734", func := "hustings/hustingslaw11.ConfBeside", spec := "confBeside", recurses := true, apart := false }
def ConfBesideSaid : Prop := confBesideRow.holds Try.pinned (OpenSpec.ofChange confBesideSpec)

/-- ITS FALSE NEIGHBOUR: 'it returns false'. Refute it at one input. -/
def confBesideWrong : ChangeSpec := { name := "confBeside", fn := fun _ => fun
  | [d1, d2] => { results := [.lit (.bool false)], args := [d1, d2] }
  | _ => none }
def ConfBesideWrongFalsely : Prop := confBesideRow.holds Try.pinned (OpenSpec.ofChange confBesideWrong)

/-- 'hustingslaw11.ConfReaches': WHATEVER THE INPUT: true; the input reads as it did. -/
def confReachesSpec : ChangeSpec := { name := "confReaches", fn := fun _ => fun
  | [d1, d2] => { results := [.lit (.bool true)], args := [d1, d2] }
  | _ => none }
def confReachesRow : OpenClaim := { program := "ytopcgnilajmnhaa", sum := "96bddfb0be11e72d2fcdef86e73077010862cb721a153137d7059a6b851bf734", func := "hustings/hustingslaw11.ConfReaches", spec := "confReaches", recurses := true, apart := false }
def ConfReachesSaid : Prop := confReachesRow.holds Try.pinned (OpenSpec.ofChange confReachesSpec)

/-- ITS FALSE NEIGHBOUR: 'it returns false'. Refute it at one input. -/
def confReachesWrong : ChangeSpec := { name := "confReaches", fn := fun _ => fun
  | [d1, d2] => { results := [.lit (.bool false)], args := [d1, d2] }
  | _ => none }
def ConfReachesWrongFalsely : Prop := confReachesRow.holds Try.pinned (OpenSpec.ofChange confReachesWrong)

/-- 'hustingslaw11.ConfGrows': WHATEVER THE INPUT: true; the input reads as it did. -/
def confGrowsSpec : ChangeSpec := { name := "confGrows", fn := fun _ => fun
  | [d1, d2, d3, d4] => { results := [.lit (.bool true)], args := [d1, d2, d3, d4] }
  | _ => none }
def confGrowsRow : OpenClaim := { program := "ytopcgnilajmnhaa", sum := "96bddfb0be11e72d2fcdef86e73077010862cb721a153137d7059a6b851bf734", func := "hustings/hustingslaw11.ConfGrows", spec := "confGrows", recurses := true, apart := false }
def ConfGrowsSaid : Prop := confGrowsRow.holds Try.pinned (OpenSpec.ofChange confGrowsSpec)

/-- ITS FALSE NEIGHBOUR: 'it returns false'. Refute it at one input. -/
def confGrowsWrong : ChangeSpec := { name := "confGrows", fn := fun _ => fun
  | [d1, d2, d3, d4] => { results := [.lit (.bool false)], args := [d1, d2, d3, d4] }
  | _ => none }
def ConfGrowsWrongFalsely : Prop := confGrowsRow.holds Try.pinned (OpenSpec.ofChange confGrowsWrong)

/-- 'hustingslaw11.ConfLooks': WHATEVER THE INPUT: true; the input reads as it did. -/
def confLooksSpec : ChangeSpec := { name := "confLooks", fn := fun _ => fun
  | [d1, d2] => { results := [.lit (.bool true)], args := [d1, d2] }
  | _ => none }
def confLooksRow : OpenClaim := { program := "ytopcgnilajmnhaa", sum := "96bddfb0be11e72d2fcdef86e73077010862cb721a153137d7059a6b851bf734", func := "hustings/hustingslaw11.ConfLooks", spec := "confLooks", recurses := true, apart := false }
def ConfLooksSaid : Prop := confLooksRow.holds Try.pinned (OpenSpec.ofChange confLooksSpec)

/-- ITS FALSE NEIGHBOUR: 'it returns false'. Refute it at one input. -/
def confLooksWrong : ChangeSpec := { name := "confLooks", fn := fun _ => fun
  | [d1, d2] => { results := [.lit (.bool false)], args := [d1, d2] }
  | _ => none }
def ConfLooksWrongFalsely : Prop := confLooksRow.holds Try.pinned (OpenSpec.ofChange confLooksWrong)

/-- 'hustingslaw11.ConfChanges': WHATEVER THE INPUT: true; the input reads as it did. -/
def confChangesSpec : ChangeSpec := { name := "confChanges", fn := fun _ => fun
  | [d1, d2, d3] => { results := [.lit (.bool true)], args := [d1, d2, d3] }
  | _ => none }
def confChangesRow : OpenClaim := { program := "ytopcgnilajmnhaa", sum := "96bddfb0be11e72d2fcdef86e73077010862cb721a153137d7059a6b851bf734", func := "hustings/hustingslaw11.ConfChanges", spec := "confChanges", unfollowed := true, recurses := true, apart := false }
def ConfChangesSaid : Prop := confChangesRow.holds Try.pinned (OpenSpec.ofChange confChangesSpec)

/-- ITS FALSE NEIGHBOUR: 'it returns false'. Refute it at one input. -/
def confChangesWrong : ChangeSpec := { name := "confChanges", fn := fun _ => fun
  | [d1, d2, d3] => { results := [.lit (.bool false)], args := [d1, d2, d3] }
  | _ => none }
def ConfChangesWrongFalsely : Prop := confChangesRow.holds Try.pinned (OpenSpec.ofChange confChangesWrong)

/-- 'hustingslaw11.ConfMeet': WHATEVER THE INPUT: true; the input reads as it did. -/
def confMeetSpec : ChangeSpec := { name := "confMeet", fn := fun _ => fun
  | [d1, d2, d3, d4, d5] => { results := [.lit (.bool true)], args := [d1, d2, d3, d4, d5] }
  | _ => none }
def confMeetRow : OpenClaim := { program := "ytopcgnilajmnhaa", sum := "96bddfb0be11e72d2fcdef86e73077010862cb721a153137d7059a6b851bf734", func := "hustings/hustingslaw11.ConfMeet", spec := "confMeet", unfollowed := true, recurses := true, apart := false }
def ConfMeetSaid : Prop := confMeetRow.holds Try.pinned (OpenSpec.ofChange confMeetSpec)

/-- ITS FALSE NEIGHBOUR: 'it returns false'. Refute it at one input. -/
def confMeetWrong : ChangeSpec := { name := "confMeet", fn := fun _ => fun
  | [d1, d2, d3, d4, d5] => { results := [.lit (.bool false)], args := [d1, d2, d3, d4, d5] }
  | _ => none }
def ConfMeetWrongFalsely : Prop := confMeetRow.holds Try.pinned (OpenSpec.ofChange confMeetWrong)

/-- 'hustingslaw11.ConfBack': WHATEVER THE INPUT: true; the input reads as it did. -/
def confBackSpec : ChangeSpec := { name := "confBack", fn := fun _ => fun
  | [d1, d2, d3] => { results := [.lit (.bool true)], args := [d1, d2, d3] }
  | _ => none }
def confBackRow : OpenClaim := { program := "ytopcgnilajmnhaa", sum := "96bddfb0be11e72d2fcdef86e73077010862cb721a153137d7059a6b851bf734", func := "hustings/hustingslaw11.ConfBack", spec := "confBack", unfollowed := true, recurses := true, apart := false }
def ConfBackSaid : Prop := confBackRow.holds Try.pinned (OpenSpec.ofChange confBackSpec)

/-- ITS FALSE NEIGHBOUR: 'it returns false'. Refute it at one input. -/
def confBackWrong : ChangeSpec := { name := "confBack", fn := fun _ => fun
  | [d1, d2, d3] => { results := [.lit (.bool false)], args := [d1, d2, d3] }
  | _ => none }
def ConfBackWrongFalsely : Prop := confBackRow.holds Try.pinned (OpenSpec.ofChange confBackWrong)

/- THE SECOND FORM. 'bulk': how many values and letters a reading holds, each counted each time it is reached (what is shared counts as often as it is met; a slice's spare places count too). A statement '..UptoSaid' is the law's where the arguments, and the package variables that the reading takes, are together of bulk at most 1048576: NARROWER than '..Said'. Prove '..Said' where nothing that the law and all that it calls make is longer than what came in: it says more and counts as full. Else prove '..UptoSaid'. A law counts once. -/
mutual
def uptoBulk {H : Type} : DataW H → Nat
  | .lit (.string bytes) => bytes.length + 1
  | .lit _ => 1
  | .nil => 1
  | .ptr d => uptoBulk d + 1
  | .slice elems spare => uptoBulkAll elems + uptoBulkAll spare + 1
  | .agg parts => uptoBulkAll parts + 1
  | .iface _ d => uptoBulk d + 1
  | .map entries => uptoBulkEntries entries + 1
  | .held _ => 1
def uptoBulkAll {H : Type} : List (DataW H) → Nat
  | [] => 0
  | d :: r => uptoBulk d + uptoBulkAll r
def uptoBulkEntries {H : Type} : List (Lit × DataW H) → Nat
  | [] => 0
  | x :: r => uptoBulkEntry x + uptoBulkEntries r
def uptoBulkEntry {H : Type} : Lit × DataW H → Nat
  | (.string bytes, d) => bytes.length + uptoBulk d + 1
  | (_, d) => uptoBulk d + 1
 end
def uptoSmall : (H : Type) → List (DataW H) → Bool := fun _ ds => decide (uptoBulkAll ds ≤ 1048576)
def OpenSpec.upto (s : _root_.Go.ChangeSpec) : _root_.Go.OpenSpec := { _root_.Go.OpenSpec.ofChange s with cond := some uptoSmall }

/-- 'hustingslaw11.ConfBeside', WHERE WHAT IT READS IS OF BULK AT MOST 1048576: true; the input reads as it did. -/
def confBesideUptoRow : OpenClaim := { program := "ytopcgnilajmnhaa", sum := "96bddfb0be11e72d2fcdef86e73077010862cb721a153137d7059a6b851bf734", func := "hustings/hustingslaw11.ConfBeside", spec := "confBeside", recurses := true, apart := false, narrowed := true }
def ConfBesideUptoSaid : Prop := confBesideUptoRow.holds Try.pinned (OpenSpec.upto confBesideSpec)

/-- 'hustingslaw11.ConfReaches', WHERE WHAT IT READS IS OF BULK AT MOST 1048576: true; the input reads as it did. -/
def confReachesUptoRow : OpenClaim := { program := "ytopcgnilajmnhaa", sum := "96bddfb0be11e72d2fcdef86e73077010862cb721a153137d7059a6b851bf734", func := "hustings/hustingslaw11.ConfReaches", spec := "confReaches", recurses := true, apart := false, narrowed := true }
def ConfReachesUptoSaid : Prop := confReachesUptoRow.holds Try.pinned (OpenSpec.upto confReachesSpec)

/-- 'hustingslaw11.ConfGrows', WHERE WHAT IT READS IS OF BULK AT MOST 1048576: true; the input reads as it did. -/
def confGrowsUptoRow : OpenClaim := { program := "ytopcgnilajmnhaa", sum := "96bddfb0be11e72d2fcdef86e73077010862cb721a153137d7059a6b851bf734", func := "hustings/hustingslaw11.ConfGrows", spec := "confGrows", recurses := true, apart := false, narrowed := true }
def ConfGrowsUptoSaid : Prop := confGrowsUptoRow.holds Try.pinned (OpenSpec.upto confGrowsSpec)

/-- 'hustingslaw11.ConfLooks', WHERE WHAT IT READS IS OF BULK AT MOST 1048576: true; the input reads as it did. -/
def confLooksUptoRow : OpenClaim := { program := "ytopcgnilajmnhaa", sum := "96bddfb0be11e72d2fcdef86e73077010862cb721a153137d7059a6b851bf734", func := "hustings/hustingslaw11.ConfLooks", spec := "confLooks", recurses := true, apart := false, narrowed := true }
def ConfLooksUptoSaid : Prop := confLooksUptoRow.holds Try.pinned (OpenSpec.upto confLooksSpec)

/-- 'hustingslaw11.ConfChanges', WHERE WHAT IT READS IS OF BULK AT MOST 1048576: true; the input reads as it did. -/
def confChangesUptoRow : OpenClaim := { program := "ytopcgnilajmnhaa", sum := "96bddfb0be11e72d2fcdef86e73077010862cb721a153137d7059a6b851bf734", func := "hustings/hustingslaw11.ConfChanges", spec := "confChanges", unfollowed := true, recurses := true, apart := false, narrowed := true }
def ConfChangesUptoSaid : Prop := confChangesUptoRow.holds Try.pinned (OpenSpec.upto confChangesSpec)

/-- 'hustingslaw11.ConfMeet', WHERE WHAT IT READS IS OF BULK AT MOST 1048576: true; the input reads as it did. -/
def confMeetUptoRow : OpenClaim := { program := "ytopcgnilajmnhaa", sum := "96bddfb0be11e72d2fcdef86e73077010862cb721a153137d7059a6b851bf734", func := "hustings/hustingslaw11.ConfMeet", spec := "confMeet", unfollowed := true, recurses := true, apart := false, narrowed := true }
def ConfMeetUptoSaid : Prop := confMeetUptoRow.holds Try.pinned (OpenSpec.upto confMeetSpec)

/-- 'hustingslaw11.ConfBack', WHERE WHAT IT READS IS OF BULK AT MOST 1048576: true; the input reads as it did. -/
def confBackUptoRow : OpenClaim := { program := "ytopcgnilajmnhaa", sum := "96bddfb0be11e72d2fcdef86e73077010862cb721a153137d7059a6b851bf734", func := "hustings/hustingslaw11.ConfBack", spec := "confBack", unfollowed := true, recurses := true, apart := false, narrowed := true }
def ConfBackUptoSaid : Prop := confBackUptoRow.holds Try.pinned (OpenSpec.upto confBackSpec)

end Rows
end Go.Proofs.Ytopcgnilajmnhaa
