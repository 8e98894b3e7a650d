/-
  NARROWER THAN 'FOR EVERY INPUT', by the rows' own cells (each row's printed sentence says how): DataReads: laid · DataWrites: laid · DataBack: laid · DataWhole: laid · DataJust: laid · DataNames: laid · DataTells: laid · DataFolded: laid.
  DERIVED. THE GIVEN ROWS OF THIS SEAT. 8 by the template 'for every input the law returns true; each argument reads behind the call as it read before'; 0 by the template 'total and deterministic' (their statements: YtijjfdmklbncbaaDoorTotals.lean).
  GIVEN WITH THE SEED: the statements are not yours to turn. If you find one false, say at which input.
  Laid BY PROGRAM, IN A SANDBOX (cutbox-rows.mjs): the forced cells as the released guide's own fill.sh prints them over the translation b92ff19c371444a7… (all of the seat's roots in one cut). By AI agents, Wed Nov 11 2026. No macro, syntax, notation, axiom, sorry.
-/
import Derived.Test.YtijjfdmklbncbaaDoorChecked
import GoSem.Claim
import GoSem.ClaimJoined
import GoSem.ClaimMapViews
import Derived.JoinedTies
import Derived.KernelRfl
namespace Go.Proofs.YtijjfdmklbncbaaDoor
/- THE CELL 'sum', in the pinned program and in every row, IS THE sha256 OF THE DUMP (.gsa) THAT YtijjfdmklbncbaaDoorProg.lean LOADS. Nothing in Lean hashes anything: it is a label: what it is worth is what the hold of that sum in a sandbox is worth. -/
noncomputable def Tryd.pinned : Pinned := { name := "ytijjfdmklbncbaadoor", sum := "b92ff19c371444a7b48082e805673145f0e1c585aafc458f5822e7d4724782b0", checked := Tryd.checked }
namespace Rows
def none {H : Type} : Left H := { results := [], args := [] }

/- WHAT THE LISTED PACKAGE-LEVEL VARIABLES READ AS WHEN THE CALL BEGINS. Each datum BY PROGRAM (the guide's laid-datum.mjs) off the statement by which the dump's own 'gosem.cut.vars' lays the variable. In a bare row this is a premise. The card (YtijjfdmklbncbaaDoorCards.lean) ties it to the program's text. -/
def laid_errors_errorType {H : Type} : DataW H := .iface "internal/reflectlite.rtype" (.agg [.ptr (.lit (.string [101, 114, 114, 111, 114]))])

/-- 'hustingslaw05.DataReads': WHATEVER THE INPUT: true; the input reads as it did. -/
def dataReadsSpec : ChangeSpec := { name := "dataReads", fn := fun _ => fun
  | [d1, d2, d3, d4] => { results := [.lit (.bool true)], args := [d1, d2, d3, d4] }
  | _ => none }
def dataReadsRow : OpenClaim := { program := "ytijjfdmklbncbaadoor", sum := "b92ff19c371444a7b48082e805673145f0e1c585aafc458f5822e7d4724782b0", func := "hustings/hustingslaw05.DataReads", spec := "dataReads", inPlace := ["internal/reflectlite.ValueOf", "(internal/reflectlite.Value).Type", "(internal/reflectlite.Value).IsNil", "internal/reflectlite.TypeOf", "(internal/reflectlite.Value).Elem", "(internal/reflectlite.Value).Set"], unfollowed := true, recurses := true, named := ["errors.errorType"], apart := false, laid := [("errors.errorType", laid_errors_errorType)] }
def DataReadsSaid : Prop := dataReadsRow.holds Tryd.pinned (OpenSpec.ofChange dataReadsSpec)

/-- ITS FALSE NEIGHBOUR: 'it returns false'. Refute it at one input. -/
def dataReadsWrong : ChangeSpec := { name := "dataReads", fn := fun _ => fun
  | [d1, d2, d3, d4] => { results := [.lit (.bool false)], args := [d1, d2, d3, d4] }
  | _ => none }
def DataReadsWrongFalsely : Prop := dataReadsRow.holds Tryd.pinned (OpenSpec.ofChange dataReadsWrong)

/-- 'hustingslaw05.DataWrites': WHATEVER THE INPUT: true; the input reads as it did. -/
def dataWritesSpec : ChangeSpec := { name := "dataWrites", fn := fun _ => fun
  | [d1, d2] => { results := [.lit (.bool true)], args := [d1, d2] }
  | _ => none }
def dataWritesRow : OpenClaim := { program := "ytijjfdmklbncbaadoor", sum := "b92ff19c371444a7b48082e805673145f0e1c585aafc458f5822e7d4724782b0", func := "hustings/hustingslaw05.DataWrites", spec := "dataWrites", inPlace := ["internal/reflectlite.ValueOf", "(internal/reflectlite.Value).Type", "(internal/reflectlite.Value).IsNil", "internal/reflectlite.TypeOf", "(internal/reflectlite.Value).Elem", "(internal/reflectlite.Value).Set"], unfollowed := true, recurses := true, named := ["errors.errorType"], apart := false, laid := [("errors.errorType", laid_errors_errorType)] }
def DataWritesSaid : Prop := dataWritesRow.holds Tryd.pinned (OpenSpec.ofChange dataWritesSpec)

/-- ITS FALSE NEIGHBOUR: 'it returns false'. Refute it at one input. -/
def dataWritesWrong : ChangeSpec := { name := "dataWrites", fn := fun _ => fun
  | [d1, d2] => { results := [.lit (.bool false)], args := [d1, d2] }
  | _ => none }
def DataWritesWrongFalsely : Prop := dataWritesRow.holds Tryd.pinned (OpenSpec.ofChange dataWritesWrong)

/-- 'hustingslaw05.DataBack': WHATEVER THE INPUT: true; the input reads as it did. -/
def dataBackSpec : ChangeSpec := { name := "dataBack", fn := fun _ => fun
  | [d1, d2] => { results := [.lit (.bool true)], args := [d1, d2] }
  | _ => none }
def dataBackRow : OpenClaim := { program := "ytijjfdmklbncbaadoor", sum := "b92ff19c371444a7b48082e805673145f0e1c585aafc458f5822e7d4724782b0", func := "hustings/hustingslaw05.DataBack", spec := "dataBack", inPlace := ["internal/reflectlite.ValueOf", "(internal/reflectlite.Value).Type", "(internal/reflectlite.Value).IsNil", "internal/reflectlite.TypeOf", "(internal/reflectlite.Value).Elem", "(internal/reflectlite.Value).Set"], unfollowed := true, recurses := true, named := ["errors.errorType"], apart := false, laid := [("errors.errorType", laid_errors_errorType)] }
def DataBackSaid : Prop := dataBackRow.holds Tryd.pinned (OpenSpec.ofChange dataBackSpec)

/-- ITS FALSE NEIGHBOUR: 'it returns false'. Refute it at one input. -/
def dataBackWrong : ChangeSpec := { name := "dataBack", fn := fun _ => fun
  | [d1, d2] => { results := [.lit (.bool false)], args := [d1, d2] }
  | _ => none }
def DataBackWrongFalsely : Prop := dataBackRow.holds Tryd.pinned (OpenSpec.ofChange dataBackWrong)

/-- 'hustingslaw05.DataWhole': WHATEVER THE INPUT: true; the input reads as it did. -/
def dataWholeSpec : ChangeSpec := { name := "dataWhole", fn := fun _ => fun
  | [d1, d2, d3, d4, d5] => { results := [.lit (.bool true)], args := [d1, d2, d3, d4, d5] }
  | _ => none }
def dataWholeRow : OpenClaim := { program := "ytijjfdmklbncbaadoor", sum := "b92ff19c371444a7b48082e805673145f0e1c585aafc458f5822e7d4724782b0", func := "hustings/hustingslaw05.DataWhole", spec := "dataWhole", inPlace := ["internal/reflectlite.ValueOf", "(internal/reflectlite.Value).Type", "(internal/reflectlite.Value).IsNil", "internal/reflectlite.TypeOf", "(internal/reflectlite.Value).Elem", "(internal/reflectlite.Value).Set"], unfollowed := true, recurses := true, named := ["errors.errorType"], apart := false, laid := [("errors.errorType", laid_errors_errorType)] }
def DataWholeSaid : Prop := dataWholeRow.holds Tryd.pinned (OpenSpec.ofChange dataWholeSpec)

/-- ITS FALSE NEIGHBOUR: 'it returns false'. Refute it at one input. -/
def dataWholeWrong : ChangeSpec := { name := "dataWhole", fn := fun _ => fun
  | [d1, d2, d3, d4, d5] => { results := [.lit (.bool false)], args := [d1, d2, d3, d4, d5] }
  | _ => none }
def DataWholeWrongFalsely : Prop := dataWholeRow.holds Tryd.pinned (OpenSpec.ofChange dataWholeWrong)

/-- 'hustingslaw05.DataJust': WHATEVER THE INPUT: true; the input reads as it did. -/
def dataJustSpec : ChangeSpec := { name := "dataJust", fn := fun _ => fun
  | [d1, d2, d3] => { results := [.lit (.bool true)], args := [d1, d2, d3] }
  | _ => none }
def dataJustRow : OpenClaim := { program := "ytijjfdmklbncbaadoor", sum := "b92ff19c371444a7b48082e805673145f0e1c585aafc458f5822e7d4724782b0", func := "hustings/hustingslaw05.DataJust", spec := "dataJust", inPlace := ["internal/reflectlite.ValueOf", "(internal/reflectlite.Value).Type", "(internal/reflectlite.Value).IsNil", "internal/reflectlite.TypeOf", "(internal/reflectlite.Value).Elem", "(internal/reflectlite.Value).Set"], unfollowed := true, recurses := true, named := ["errors.errorType"], apart := false, laid := [("errors.errorType", laid_errors_errorType)] }
def DataJustSaid : Prop := dataJustRow.holds Tryd.pinned (OpenSpec.ofChange dataJustSpec)

/-- ITS FALSE NEIGHBOUR: 'it returns false'. Refute it at one input. -/
def dataJustWrong : ChangeSpec := { name := "dataJust", fn := fun _ => fun
  | [d1, d2, d3] => { results := [.lit (.bool false)], args := [d1, d2, d3] }
  | _ => none }
def DataJustWrongFalsely : Prop := dataJustRow.holds Tryd.pinned (OpenSpec.ofChange dataJustWrong)

/-- 'hustingslaw05.DataNames': WHATEVER THE INPUT: true; the input reads as it did. -/
def dataNamesSpec : ChangeSpec := { name := "dataNames", fn := fun _ => fun
  | [] => { results := [.lit (.bool true)], args := [] }
  | _ => none }
def dataNamesRow : OpenClaim := { program := "ytijjfdmklbncbaadoor", sum := "b92ff19c371444a7b48082e805673145f0e1c585aafc458f5822e7d4724782b0", func := "hustings/hustingslaw05.DataNames", spec := "dataNames", inPlace := ["internal/reflectlite.ValueOf", "(internal/reflectlite.Value).Type", "(internal/reflectlite.Value).IsNil", "internal/reflectlite.TypeOf", "(internal/reflectlite.Value).Elem", "(internal/reflectlite.Value).Set"], unfollowed := true, recurses := true, named := ["errors.errorType"], apart := false, laid := [("errors.errorType", laid_errors_errorType)] }
def DataNamesSaid : Prop := dataNamesRow.holds Tryd.pinned (OpenSpec.ofChange dataNamesSpec)

/-- ITS FALSE NEIGHBOUR: 'it returns false'. Refute it at one input. -/
def dataNamesWrong : ChangeSpec := { name := "dataNames", fn := fun _ => fun
  | [] => { results := [.lit (.bool false)], args := [] }
  | _ => none }
def DataNamesWrongFalsely : Prop := dataNamesRow.holds Tryd.pinned (OpenSpec.ofChange dataNamesWrong)

/-- 'hustingslaw05.DataTells': WHATEVER THE INPUT: true; the input reads as it did. -/
def dataTellsSpec : ChangeSpec := { name := "dataTells", fn := fun _ => fun
  | [d1, d2] => { results := [.lit (.bool true)], args := [d1, d2] }
  | _ => none }
def dataTellsRow : OpenClaim := { program := "ytijjfdmklbncbaadoor", sum := "b92ff19c371444a7b48082e805673145f0e1c585aafc458f5822e7d4724782b0", func := "hustings/hustingslaw05.DataTells", spec := "dataTells", inPlace := ["internal/reflectlite.ValueOf", "(internal/reflectlite.Value).Type", "(internal/reflectlite.Value).IsNil", "internal/reflectlite.TypeOf", "(internal/reflectlite.Value).Elem", "(internal/reflectlite.Value).Set"], unfollowed := true, recurses := true, named := ["errors.errorType"], apart := false, laid := [("errors.errorType", laid_errors_errorType)] }
def DataTellsSaid : Prop := dataTellsRow.holds Tryd.pinned (OpenSpec.ofChange dataTellsSpec)

/-- ITS FALSE NEIGHBOUR: 'it returns false'. Refute it at one input. -/
def dataTellsWrong : ChangeSpec := { name := "dataTells", fn := fun _ => fun
  | [d1, d2] => { results := [.lit (.bool false)], args := [d1, d2] }
  | _ => none }
def DataTellsWrongFalsely : Prop := dataTellsRow.holds Tryd.pinned (OpenSpec.ofChange dataTellsWrong)

/-- 'hustingslaw05.DataFolded': WHATEVER THE INPUT: true; the input reads as it did. -/
def dataFoldedSpec : ChangeSpec := { name := "dataFolded", fn := fun _ => fun
  | [d1, d2] => { results := [.lit (.bool true)], args := [d1, d2] }
  | _ => none }
def dataFoldedRow : OpenClaim := { program := "ytijjfdmklbncbaadoor", sum := "b92ff19c371444a7b48082e805673145f0e1c585aafc458f5822e7d4724782b0", func := "hustings/hustingslaw05.DataFolded", spec := "dataFolded", inPlace := ["internal/reflectlite.ValueOf", "(internal/reflectlite.Value).Type", "(internal/reflectlite.Value).IsNil", "internal/reflectlite.TypeOf", "(internal/reflectlite.Value).Elem", "(internal/reflectlite.Value).Set"], unfollowed := true, recurses := true, named := ["errors.errorType"], apart := false, laid := [("errors.errorType", laid_errors_errorType)] }
def DataFoldedSaid : Prop := dataFoldedRow.holds Tryd.pinned (OpenSpec.ofChange dataFoldedSpec)

/-- ITS FALSE NEIGHBOUR: 'it returns false'. Refute it at one input. -/
def dataFoldedWrong : ChangeSpec := { name := "dataFolded", fn := fun _ => fun
  | [d1, d2] => { results := [.lit (.bool false)], args := [d1, d2] }
  | _ => none }
def DataFoldedWrongFalsely : Prop := dataFoldedRow.holds Tryd.pinned (OpenSpec.ofChange dataFoldedWrong)

/- THE SECOND FORM. 'bulk': how many values and letters a reading holds, each counted each time it is reached (what is shared counts as often as it is met; a slice's spare places count too). A statement '..UptoSaid' is the law's where the arguments, and the package variables that the reading takes, are together of bulk at most 1048576: NARROWER than '..Said'. Prove '..Said' where nothing that the law and all that it calls make is longer than what came in: it says more and counts as full. Else prove '..UptoSaid'. A law counts once. -/
mutual
def uptoBulk {H : Type} : DataW H → Nat
  | .lit (.string bytes) => bytes.length + 1
  | .lit _ => 1
  | .nil => 1
  | .ptr d => uptoBulk d + 1
  | .slice elems spare => uptoBulkAll elems + uptoBulkAll spare + 1
  | .agg parts => uptoBulkAll parts + 1
  | .iface _ d => uptoBulk d + 1
  | .map entries => uptoBulkEntries entries + 1
  | .held _ => 1
def uptoBulkAll {H : Type} : List (DataW H) → Nat
  | [] => 0
  | d :: r => uptoBulk d + uptoBulkAll r
def uptoBulkEntries {H : Type} : List (Lit × DataW H) → Nat
  | [] => 0
  | x :: r => uptoBulkEntry x + uptoBulkEntries r
def uptoBulkEntry {H : Type} : Lit × DataW H → Nat
  | (.string bytes, d) => bytes.length + uptoBulk d + 1
  | (_, d) => uptoBulk d + 1
 end
def uptoSmall : (H : Type) → List (DataW H) → Bool := fun _ ds => decide (uptoBulkAll ds ≤ 1048576)
def OpenSpec.upto (s : _root_.Go.ChangeSpec) : _root_.Go.OpenSpec := { _root_.Go.OpenSpec.ofChange s with cond := some uptoSmall }

/-- 'hustingslaw05.DataReads', WHERE WHAT IT READS IS OF BULK AT MOST 1048576: true; the input reads as it did. -/
def dataReadsUptoRow : OpenClaim := { program := "ytijjfdmklbncbaadoor", sum := "b92ff19c371444a7b48082e805673145f0e1c585aafc458f5822e7d4724782b0", func := "hustings/hustingslaw05.DataReads", spec := "dataReads", inPlace := ["internal/reflectlite.ValueOf", "(internal/reflectlite.Value).Type", "(internal/reflectlite.Value).IsNil", "internal/reflectlite.TypeOf", "(internal/reflectlite.Value).Elem", "(internal/reflectlite.Value).Set"], unfollowed := true, recurses := true, named := ["errors.errorType"], apart := false, laid := [("errors.errorType", laid_errors_errorType)], narrowed := true }
def DataReadsUptoSaid : Prop := dataReadsUptoRow.holds Tryd.pinned (OpenSpec.upto dataReadsSpec)

/-- 'hustingslaw05.DataWrites', WHERE WHAT IT READS IS OF BULK AT MOST 1048576: true; the input reads as it did. -/
def dataWritesUptoRow : OpenClaim := { program := "ytijjfdmklbncbaadoor", sum := "b92ff19c371444a7b48082e805673145f0e1c585aafc458f5822e7d4724782b0", func := "hustings/hustingslaw05.DataWrites", spec := "dataWrites", inPlace := ["internal/reflectlite.ValueOf", "(internal/reflectlite.Value).Type", "(internal/reflectlite.Value).IsNil", "internal/reflectlite.TypeOf", "(internal/reflectlite.Value).Elem", "(internal/reflectlite.Value).Set"], unfollowed := true, recurses := true, named := ["errors.errorType"], apart := false, laid := [("errors.errorType", laid_errors_errorType)], narrowed := true }
def DataWritesUptoSaid : Prop := dataWritesUptoRow.holds Tryd.pinned (OpenSpec.upto dataWritesSpec)

/-- 'hustingslaw05.DataBack', WHERE WHAT IT READS IS OF BULK AT MOST 1048576: true; the input reads as it did. -/
def dataBackUptoRow : OpenClaim := { program := "ytijjfdmklbncbaadoor", sum := "b92ff19c371444a7b48082e805673145f0e1c585aafc458f5822e7d4724782b0", func := "hustings/hustingslaw05.DataBack", spec := "dataBack", inPlace := ["internal/reflectlite.ValueOf", "(internal/reflectlite.Value).Type", "(internal/reflectlite.Value).IsNil", "internal/reflectlite.TypeOf", "(internal/reflectlite.Value).Elem", "(internal/reflectlite.Value).Set"], unfollowed := true, recurses := true, named := ["errors.errorType"], apart := false, laid := [("errors.errorType", laid_errors_errorType)], narrowed := true }
def DataBackUptoSaid : Prop := dataBackUptoRow.holds Tryd.pinned (OpenSpec.upto dataBackSpec)

/-- 'hustingslaw05.DataWhole', WHERE WHAT IT READS IS OF BULK AT MOST 1048576: true; the input reads as it did. -/
def dataWholeUptoRow : OpenClaim := { program := "ytijjfdmklbncbaadoor", sum := "b92ff19c371444a7b48082e805673145f0e1c585aafc458f5822e7d4724782b0", func := "hustings/hustingslaw05.DataWhole", spec := "dataWhole", inPlace := ["internal/reflectlite.ValueOf", "(internal/reflectlite.Value).Type", "(internal/reflectlite.Value).IsNil", "internal/reflectlite.TypeOf", "(internal/reflectlite.Value).Elem", "(internal/reflectlite.Value).Set"], unfollowed := true, recurses := true, named := ["errors.errorType"], apart := false, laid := [("errors.errorType", laid_errors_errorType)], narrowed := true }
def DataWholeUptoSaid : Prop := dataWholeUptoRow.holds Tryd.pinned (OpenSpec.upto dataWholeSpec)

/-- 'hustingslaw05.DataJust', WHERE WHAT IT READS IS OF BULK AT MOST 1048576: true; the input reads as it did. -/
def dataJustUptoRow : OpenClaim := { program := "ytijjfdmklbncbaadoor", sum := "b92ff19c371444a7b48082e805673145f0e1c585aafc458f5822e7d4724782b0", func := "hustings/hustingslaw05.DataJust", spec := "dataJust", inPlace := ["internal/reflectlite.ValueOf", "(internal/reflectlite.Value).Type", "(internal/reflectlite.Value).IsNil", "internal/reflectlite.TypeOf", "(internal/reflectlite.Value).Elem", "(internal/reflectlite.Value).Set"], unfollowed := true, recurses := true, named := ["errors.errorType"], apart := false, laid := [("errors.errorType", laid_errors_errorType)], narrowed := true }
def DataJustUptoSaid : Prop := dataJustUptoRow.holds Tryd.pinned (OpenSpec.upto dataJustSpec)

/-- 'hustingslaw05.DataNames', WHERE WHAT IT READS IS OF BULK AT MOST 1048576: true; the input reads as it did. -/
def dataNamesUptoRow : OpenClaim := { program := "ytijjfdmklbncbaadoor", sum := "b92ff19c371444a7b48082e805673145f0e1c585aafc458f5822e7d4724782b0", func := "hustings/hustingslaw05.DataNames", spec := "dataNames", inPlace := ["internal/reflectlite.ValueOf", "(internal/reflectlite.Value).Type", "(internal/reflectlite.Value).IsNil", "internal/reflectlite.TypeOf", "(internal/reflectlite.Value).Elem", "(internal/reflectlite.Value).Set"], unfollowed := true, recurses := true, named := ["errors.errorType"], apart := false, laid := [("errors.errorType", laid_errors_errorType)], narrowed := true }
def DataNamesUptoSaid : Prop := dataNamesUptoRow.holds Tryd.pinned (OpenSpec.upto dataNamesSpec)

/-- 'hustingslaw05.DataTells', WHERE WHAT IT READS IS OF BULK AT MOST 1048576: true; the input reads as it did. -/
def dataTellsUptoRow : OpenClaim := { program := "ytijjfdmklbncbaadoor", sum := "b92ff19c371444a7b48082e805673145f0e1c585aafc458f5822e7d4724782b0", func := "hustings/hustingslaw05.DataTells", spec := "dataTells", inPlace := ["internal/reflectlite.ValueOf", "(internal/reflectlite.Value).Type", "(internal/reflectlite.Value).IsNil", "internal/reflectlite.TypeOf", "(internal/reflectlite.Value).Elem", "(internal/reflectlite.Value).Set"], unfollowed := true, recurses := true, named := ["errors.errorType"], apart := false, laid := [("errors.errorType", laid_errors_errorType)], narrowed := true }
def DataTellsUptoSaid : Prop := dataTellsUptoRow.holds Tryd.pinned (OpenSpec.upto dataTellsSpec)

/-- 'hustingslaw05.DataFolded', WHERE WHAT IT READS IS OF BULK AT MOST 1048576: true; the input reads as it did. -/
def dataFoldedUptoRow : OpenClaim := { program := "ytijjfdmklbncbaadoor", sum := "b92ff19c371444a7b48082e805673145f0e1c585aafc458f5822e7d4724782b0", func := "hustings/hustingslaw05.DataFolded", spec := "dataFolded", inPlace := ["internal/reflectlite.ValueOf", "(internal/reflectlite.Value).Type", "(internal/reflectlite.Value).IsNil", "internal/reflectlite.TypeOf", "(internal/reflectlite.Value).Elem", "(internal/reflectlite.Value).Set"], unfollowed := true, recurses := true, named := ["errors.errorType"], apart := false, laid := [("errors.errorType", laid_errors_errorType)], narrowed := true }
def DataFoldedUptoSaid : Prop := dataFoldedUptoRow.holds Tryd.pinned (OpenSpec.upto dataFoldedSpec)

end Rows
end Go.Proofs.YtijjfdmklbncbaaDoor
