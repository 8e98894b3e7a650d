/-
  NARROWER THAN 'FOR EVERY INPUT', by the rows' own cells (each row's printed sentence says how): SoaFinds: laid · SoaNames: laid · SoaTime: laid · SoaInward: laid · SoaInner: laid · SoaMore: laid.
  DERIVED. THE GIVEN ROWS OF THIS SEAT. 6 by the template 'for every input the law returns true; each argument reads behind the call as it read before'; 0 by the template 'total and deterministic' (their statements: YtomjiephbacocaaDoorTotals.lean).
  GIVEN WITH THE SEED: the statements are not yours to turn. If you find one false, say at which input.
  Laid BY PROGRAM, IN A SANDBOX (cutbox-rows.mjs): the forced cells as the released guide's own fill.sh prints them over the translation dc3889077f6a1c81… (all of the seat's roots in one cut). By AI agents, Wed Nov 11 2026. No macro, syntax, notation, axiom, sorry.
-/
import Derived.Test.YtomjiephbacocaaDoorChecked
import GoSem.Claim
import GoSem.ClaimJoined
import GoSem.ClaimMapViews
import Derived.JoinedTies
import Derived.KernelRfl
namespace Go.Proofs.YtomjiephbacocaaDoor
/- THE CELL 'sum', in the pinned program and in every row, IS THE sha256 OF THE DUMP (.gsa) THAT YtomjiephbacocaaDoorProg.lean LOADS. Nothing in Lean hashes anything: it is a label: what it is worth is what the hold of that sum in a sandbox is worth. -/
noncomputable def Tryd.pinned : Pinned := { name := "ytomjiephbacocaadoor", sum := "dc3889077f6a1c812843ed38efd198966e458d7f55afbe248b4c0ba060fa2343", checked := Tryd.checked }
namespace Rows
def none {H : Type} : Left H := { results := [], args := [] }

/- WHAT THE LISTED PACKAGE-LEVEL VARIABLES READ AS WHEN THE CALL BEGINS. Each datum BY PROGRAM (the guide's laid-datum.mjs) off the statement by which the dump's own 'gosem.cut.vars' lays the variable. In a bare row this is a premise. The card (YtomjiephbacocaaDoorCards.lean) ties it to the program's text. -/
def laid_errors_errorType {H : Type} : DataW H := .iface "internal/reflectlite.rtype" (.agg [.ptr (.lit (.string [101, 114, 114, 111, 114]))])

/-- 'hustingslaw10.SoaFinds': WHATEVER THE INPUT: true; the input reads as it did. -/
def soaFindsSpec : ChangeSpec := { name := "soaFinds", fn := fun _ => fun
  | [d1, d2, d3, d4] => { results := [.lit (.bool true)], args := [d1, d2, d3, d4] }
  | _ => none }
def soaFindsRow : OpenClaim := { program := "ytomjiephbacocaadoor", sum := "dc3889077f6a1c812843ed38efd198966e458d7f55afbe248b4c0ba060fa2343", func := "hustings/hustingslaw10.SoaFinds", spec := "soaFinds", inPlace := ["internal/reflectlite.ValueOf", "(internal/reflectlite.Value).Type", "(internal/reflectlite.Value).IsNil", "internal/reflectlite.TypeOf", "(internal/reflectlite.Value).Elem", "(internal/reflectlite.Value).Set"], unfollowed := true, recurses := true, named := ["errors.errorType"], apart := false, laid := [("errors.errorType", laid_errors_errorType)] }
def SoaFindsSaid : Prop := soaFindsRow.holds Tryd.pinned (OpenSpec.ofChange soaFindsSpec)

/-- ITS FALSE NEIGHBOUR: 'it returns false'. Refute it at one input. -/
def soaFindsWrong : ChangeSpec := { name := "soaFinds", fn := fun _ => fun
  | [d1, d2, d3, d4] => { results := [.lit (.bool false)], args := [d1, d2, d3, d4] }
  | _ => none }
def SoaFindsWrongFalsely : Prop := soaFindsRow.holds Tryd.pinned (OpenSpec.ofChange soaFindsWrong)

/-- 'hustingslaw10.SoaNames': WHATEVER THE INPUT: true; the input reads as it did. -/
def soaNamesSpec : ChangeSpec := { name := "soaNames", fn := fun _ => fun
  | [] => { results := [.lit (.bool true)], args := [] }
  | _ => none }
def soaNamesRow : OpenClaim := { program := "ytomjiephbacocaadoor", sum := "dc3889077f6a1c812843ed38efd198966e458d7f55afbe248b4c0ba060fa2343", func := "hustings/hustingslaw10.SoaNames", spec := "soaNames", inPlace := ["internal/reflectlite.ValueOf", "(internal/reflectlite.Value).Type", "(internal/reflectlite.Value).IsNil", "internal/reflectlite.TypeOf", "(internal/reflectlite.Value).Elem", "(internal/reflectlite.Value).Set"], unfollowed := true, recurses := true, named := ["errors.errorType"], apart := false, laid := [("errors.errorType", laid_errors_errorType)] }
def SoaNamesSaid : Prop := soaNamesRow.holds Tryd.pinned (OpenSpec.ofChange soaNamesSpec)

/-- ITS FALSE NEIGHBOUR: 'it returns false'. Refute it at one input. -/
def soaNamesWrong : ChangeSpec := { name := "soaNames", fn := fun _ => fun
  | [] => { results := [.lit (.bool false)], args := [] }
  | _ => none }
def SoaNamesWrongFalsely : Prop := soaNamesRow.holds Tryd.pinned (OpenSpec.ofChange soaNamesWrong)

/-- 'hustingslaw10.SoaTime': WHATEVER THE INPUT: true; the input reads as it did. -/
def soaTimeSpec : ChangeSpec := { name := "soaTime", fn := fun _ => fun
  | [d1, d2, d3, d4, d5] => { results := [.lit (.bool true)], args := [d1, d2, d3, d4, d5] }
  | _ => none }
def soaTimeRow : OpenClaim := { program := "ytomjiephbacocaadoor", sum := "dc3889077f6a1c812843ed38efd198966e458d7f55afbe248b4c0ba060fa2343", func := "hustings/hustingslaw10.SoaTime", spec := "soaTime", inPlace := ["internal/reflectlite.ValueOf", "(internal/reflectlite.Value).Type", "(internal/reflectlite.Value).IsNil", "internal/reflectlite.TypeOf", "(internal/reflectlite.Value).Elem", "(internal/reflectlite.Value).Set"], unfollowed := true, recurses := true, named := ["errors.errorType"], apart := false, laid := [("errors.errorType", laid_errors_errorType)] }
def SoaTimeSaid : Prop := soaTimeRow.holds Tryd.pinned (OpenSpec.ofChange soaTimeSpec)

/-- ITS FALSE NEIGHBOUR: 'it returns false'. Refute it at one input. -/
def soaTimeWrong : ChangeSpec := { name := "soaTime", fn := fun _ => fun
  | [d1, d2, d3, d4, d5] => { results := [.lit (.bool false)], args := [d1, d2, d3, d4, d5] }
  | _ => none }
def SoaTimeWrongFalsely : Prop := soaTimeRow.holds Tryd.pinned (OpenSpec.ofChange soaTimeWrong)

/-- 'hustingslaw10.SoaInward': WHATEVER THE INPUT: true; the input reads as it did. -/
def soaInwardSpec : ChangeSpec := { name := "soaInward", fn := fun _ => fun
  | [d1, d2, d3] => { results := [.lit (.bool true)], args := [d1, d2, d3] }
  | _ => none }
def soaInwardRow : OpenClaim := { program := "ytomjiephbacocaadoor", sum := "dc3889077f6a1c812843ed38efd198966e458d7f55afbe248b4c0ba060fa2343", func := "hustings/hustingslaw10.SoaInward", spec := "soaInward", inPlace := ["internal/reflectlite.ValueOf", "(internal/reflectlite.Value).Type", "(internal/reflectlite.Value).IsNil", "internal/reflectlite.TypeOf", "(internal/reflectlite.Value).Elem", "(internal/reflectlite.Value).Set"], unfollowed := true, recurses := true, named := ["errors.errorType"], apart := false, laid := [("errors.errorType", laid_errors_errorType)] }
def SoaInwardSaid : Prop := soaInwardRow.holds Tryd.pinned (OpenSpec.ofChange soaInwardSpec)

/-- ITS FALSE NEIGHBOUR: 'it returns false'. Refute it at one input. -/
def soaInwardWrong : ChangeSpec := { name := "soaInward", fn := fun _ => fun
  | [d1, d2, d3] => { results := [.lit (.bool false)], args := [d1, d2, d3] }
  | _ => none }
def SoaInwardWrongFalsely : Prop := soaInwardRow.holds Tryd.pinned (OpenSpec.ofChange soaInwardWrong)

/-- 'hustingslaw10.SoaInner': WHATEVER THE INPUT: true; the input reads as it did. -/
def soaInnerSpec : ChangeSpec := { name := "soaInner", fn := fun _ => fun
  | [d1, d2, d3] => { results := [.lit (.bool true)], args := [d1, d2, d3] }
  | _ => none }
def soaInnerRow : OpenClaim := { program := "ytomjiephbacocaadoor", sum := "dc3889077f6a1c812843ed38efd198966e458d7f55afbe248b4c0ba060fa2343", func := "hustings/hustingslaw10.SoaInner", spec := "soaInner", inPlace := ["internal/reflectlite.ValueOf", "(internal/reflectlite.Value).Type", "(internal/reflectlite.Value).IsNil", "internal/reflectlite.TypeOf", "(internal/reflectlite.Value).Elem", "(internal/reflectlite.Value).Set"], unfollowed := true, recurses := true, named := ["errors.errorType"], apart := false, laid := [("errors.errorType", laid_errors_errorType)] }
def SoaInnerSaid : Prop := soaInnerRow.holds Tryd.pinned (OpenSpec.ofChange soaInnerSpec)

/-- ITS FALSE NEIGHBOUR: 'it returns false'. Refute it at one input. -/
def soaInnerWrong : ChangeSpec := { name := "soaInner", fn := fun _ => fun
  | [d1, d2, d3] => { results := [.lit (.bool false)], args := [d1, d2, d3] }
  | _ => none }
def SoaInnerWrongFalsely : Prop := soaInnerRow.holds Tryd.pinned (OpenSpec.ofChange soaInnerWrong)

/-- 'hustingslaw10.SoaMore': WHATEVER THE INPUT: true; the input reads as it did. -/
def soaMoreSpec : ChangeSpec := { name := "soaMore", fn := fun _ => fun
  | [d1, d2, d3, d4] => { results := [.lit (.bool true)], args := [d1, d2, d3, d4] }
  | _ => none }
def soaMoreRow : OpenClaim := { program := "ytomjiephbacocaadoor", sum := "dc3889077f6a1c812843ed38efd198966e458d7f55afbe248b4c0ba060fa2343", func := "hustings/hustingslaw10.SoaMore", spec := "soaMore", inPlace := ["internal/reflectlite.ValueOf", "(internal/reflectlite.Value).Type", "(internal/reflectlite.Value).IsNil", "internal/reflectlite.TypeOf", "(internal/reflectlite.Value).Elem", "(internal/reflectlite.Value).Set"], unfollowed := true, recurses := true, named := ["errors.errorType"], apart := false, laid := [("errors.errorType", laid_errors_errorType)] }
def SoaMoreSaid : Prop := soaMoreRow.holds Tryd.pinned (OpenSpec.ofChange soaMoreSpec)

/-- ITS FALSE NEIGHBOUR: 'it returns false'. Refute it at one input. -/
def soaMoreWrong : ChangeSpec := { name := "soaMore", fn := fun _ => fun
  | [d1, d2, d3, d4] => { results := [.lit (.bool false)], args := [d1, d2, d3, d4] }
  | _ => none }
def SoaMoreWrongFalsely : Prop := soaMoreRow.holds Tryd.pinned (OpenSpec.ofChange soaMoreWrong)

/- THE SECOND FORM. 'bulk': how many values and letters a reading holds, each counted each time it is reached (what is shared counts as often as it is met; a slice's spare places count too). A statement '..UptoSaid' is the law's where the arguments, and the package variables that the reading takes, are together of bulk at most 1048576: NARROWER than '..Said'. Prove '..Said' where nothing that the law and all that it calls make is longer than what came in: it says more and counts as full. Else prove '..UptoSaid'. A law counts once. -/
mutual
def uptoBulk {H : Type} : DataW H → Nat
  | .lit (.string bytes) => bytes.length + 1
  | .lit _ => 1
  | .nil => 1
  | .ptr d => uptoBulk d + 1
  | .slice elems spare => uptoBulkAll elems + uptoBulkAll spare + 1
  | .agg parts => uptoBulkAll parts + 1
  | .iface _ d => uptoBulk d + 1
  | .map entries => uptoBulkEntries entries + 1
  | .held _ => 1
def uptoBulkAll {H : Type} : List (DataW H) → Nat
  | [] => 0
  | d :: r => uptoBulk d + uptoBulkAll r
def uptoBulkEntries {H : Type} : List (Lit × DataW H) → Nat
  | [] => 0
  | x :: r => uptoBulkEntry x + uptoBulkEntries r
def uptoBulkEntry {H : Type} : Lit × DataW H → Nat
  | (.string bytes, d) => bytes.length + uptoBulk d + 1
  | (_, d) => uptoBulk d + 1
 end
def uptoSmall : (H : Type) → List (DataW H) → Bool := fun _ ds => decide (uptoBulkAll ds ≤ 1048576)
def OpenSpec.upto (s : _root_.Go.ChangeSpec) : _root_.Go.OpenSpec := { _root_.Go.OpenSpec.ofChange s with cond := some uptoSmall }

/-- 'hustingslaw10.SoaFinds', WHERE WHAT IT READS IS OF BULK AT MOST 1048576: true; the input reads as it did. -/
def soaFindsUptoRow : OpenClaim := { program := "ytomjiephbacocaadoor", sum := "dc3889077f6a1c812843ed38efd198966e458d7f55afbe248b4c0ba060fa2343", func := "hustings/hustingslaw10.SoaFinds", spec := "soaFinds", inPlace := ["internal/reflectlite.ValueOf", "(internal/reflectlite.Value).Type", "(internal/reflectlite.Value).IsNil", "internal/reflectlite.TypeOf", "(internal/reflectlite.Value).Elem", "(internal/reflectlite.Value).Set"], unfollowed := true, recurses := true, named := ["errors.errorType"], apart := false, laid := [("errors.errorType", laid_errors_errorType)], narrowed := true }
def SoaFindsUptoSaid : Prop := soaFindsUptoRow.holds Tryd.pinned (OpenSpec.upto soaFindsSpec)

/-- 'hustingslaw10.SoaNames', WHERE WHAT IT READS IS OF BULK AT MOST 1048576: true; the input reads as it did. -/
def soaNamesUptoRow : OpenClaim := { program := "ytomjiephbacocaadoor", sum := "dc3889077f6a1c812843ed38efd198966e458d7f55afbe248b4c0ba060fa2343", func := "hustings/hustingslaw10.SoaNames", spec := "soaNames", inPlace := ["internal/reflectlite.ValueOf", "(internal/reflectlite.Value).Type", "(internal/reflectlite.Value).IsNil", "internal/reflectlite.TypeOf", "(internal/reflectlite.Value).Elem", "(internal/reflectlite.Value).Set"], unfollowed := true, recurses := true, named := ["errors.errorType"], apart := false, laid := [("errors.errorType", laid_errors_errorType)], narrowed := true }
def SoaNamesUptoSaid : Prop := soaNamesUptoRow.holds Tryd.pinned (OpenSpec.upto soaNamesSpec)

/-- 'hustingslaw10.SoaTime', WHERE WHAT IT READS IS OF BULK AT MOST 1048576: true; the input reads as it did. -/
def soaTimeUptoRow : OpenClaim := { program := "ytomjiephbacocaadoor", sum := "dc3889077f6a1c812843ed38efd198966e458d7f55afbe248b4c0ba060fa2343", func := "hustings/hustingslaw10.SoaTime", spec := "soaTime", inPlace := ["internal/reflectlite.ValueOf", "(internal/reflectlite.Value).Type", "(internal/reflectlite.Value).IsNil", "internal/reflectlite.TypeOf", "(internal/reflectlite.Value).Elem", "(internal/reflectlite.Value).Set"], unfollowed := true, recurses := true, named := ["errors.errorType"], apart := false, laid := [("errors.errorType", laid_errors_errorType)], narrowed := true }
def SoaTimeUptoSaid : Prop := soaTimeUptoRow.holds Tryd.pinned (OpenSpec.upto soaTimeSpec)

/-- 'hustingslaw10.SoaInward', WHERE WHAT IT READS IS OF BULK AT MOST 1048576: true; the input reads as it did. -/
def soaInwardUptoRow : OpenClaim := { program := "ytomjiephbacocaadoor", sum := "dc3889077f6a1c812843ed38efd198966e458d7f55afbe248b4c0ba060fa2343", func := "hustings/hustingslaw10.SoaInward", spec := "soaInward", inPlace := ["internal/reflectlite.ValueOf", "(internal/reflectlite.Value).Type", "(internal/reflectlite.Value).IsNil", "internal/reflectlite.TypeOf", "(internal/reflectlite.Value).Elem", "(internal/reflectlite.Value).Set"], unfollowed := true, recurses := true, named := ["errors.errorType"], apart := false, laid := [("errors.errorType", laid_errors_errorType)], narrowed := true }
def SoaInwardUptoSaid : Prop := soaInwardUptoRow.holds Tryd.pinned (OpenSpec.upto soaInwardSpec)

/-- 'hustingslaw10.SoaInner', WHERE WHAT IT READS IS OF BULK AT MOST 1048576: true; the input reads as it did. -/
def soaInnerUptoRow : OpenClaim := { program := "ytomjiephbacocaadoor", sum := "dc3889077f6a1c812843ed38efd198966e458d7f55afbe248b4c0ba060fa2343", func := "hustings/hustingslaw10.SoaInner", spec := "soaInner", inPlace := ["internal/reflectlite.ValueOf", "(internal/reflectlite.Value).Type", "(internal/reflectlite.Value).IsNil", "internal/reflectlite.TypeOf", "(internal/reflectlite.Value).Elem", "(internal/reflectlite.Value).Set"], unfollowed := true, recurses := true, named := ["errors.errorType"], apart := false, laid := [("errors.errorType", laid_errors_errorType)], narrowed := true }
def SoaInnerUptoSaid : Prop := soaInnerUptoRow.holds Tryd.pinned (OpenSpec.upto soaInnerSpec)

/-- 'hustingslaw10.SoaMore', WHERE WHAT IT READS IS OF BULK AT MOST 1048576: true; the input reads as it did. -/
def soaMoreUptoRow : OpenClaim := { program := "ytomjiephbacocaadoor", sum := "dc3889077f6a1c812843ed38efd198966e458d7f55afbe248b4c0ba060fa2343", func := "hustings/hustingslaw10.SoaMore", spec := "soaMore", inPlace := ["internal/reflectlite.ValueOf", "(internal/reflectlite.Value).Type", "(internal/reflectlite.Value).IsNil", "internal/reflectlite.TypeOf", "(internal/reflectlite.Value).Elem", "(internal/reflectlite.Value).Set"], unfollowed := true, recurses := true, named := ["errors.errorType"], apart := false, laid := [("errors.errorType", laid_errors_errorType)], narrowed := true }
def SoaMoreUptoSaid : Prop := soaMoreUptoRow.holds Tryd.pinned (OpenSpec.upto soaMoreSpec)

end Rows
end Go.Proofs.YtomjiephbacocaaDoor
