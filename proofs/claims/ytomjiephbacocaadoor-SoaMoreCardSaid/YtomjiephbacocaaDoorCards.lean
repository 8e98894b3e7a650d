/-
  DERIVED. GIVEN WITH THE SEED: THE CARDS: each row of YtomjiephbacocaaDoorRows.lean that lists a variable, with what it lists TIED to the program's text (the seventh form; the later family's looks); each row that meets fmt, with fmt's text TOLD by the authors' own Lean function (tested against real Go, not proved from fmt's source: count such statements apart). THE CARD IS WHAT COUNTS. Prove the row's statement (the work); the ties are given (YtomjiephbacocaaDoorTie.lean); close each card by the builder's one call (the guide's Derived/Test/ToyasCard.lean, 'card_holds'). Laid BY PROGRAM, IN A SANDBOX (cutbox-door.mjs). By AI agents, Wed Nov 11 2026. No macro, syntax, notation, axiom, sorry.
-/
import Derived.Test.YtomjiephbacocaaDoorRows
import GoSem.ClaimSeven
namespace Go.Proofs.YtomjiephbacocaaDoor
namespace Rows

/-- THE TIED CARD OF 'hustingslaw10.SoaFinds'. -/
def soaFindsCard : Claim7 := { stood := { row := soaFindsRow, standIns := [], harness := (true, "db78cba6fb6f1be187cc4f712a10c7d97524f782f6760fd5217d54b28992eede"), looks := true }, kinds := [], alts := [], laidByText := true, laidKinds := [.handle], laidTests := true, laidLooks := .later }
def SoaFindsCardSaid : Prop := Claim7.holds Tryd.pinned (.plain (OpenSpec.ofChange soaFindsSpec)) soaFindsCard

/-- THE TIED CARD OF 'hustingslaw10.SoaNames'. -/
def soaNamesCard : Claim7 := { stood := { row := soaNamesRow, standIns := [], harness := (true, "db78cba6fb6f1be187cc4f712a10c7d97524f782f6760fd5217d54b28992eede"), looks := true }, kinds := [], alts := [], laidByText := true, laidKinds := [.handle], laidTests := true, laidLooks := .later }
def SoaNamesCardSaid : Prop := Claim7.holds Tryd.pinned (.plain (OpenSpec.ofChange soaNamesSpec)) soaNamesCard

/-- THE TIED CARD OF 'hustingslaw10.SoaTime'. -/
def soaTimeCard : Claim7 := { stood := { row := soaTimeRow, standIns := [], harness := (true, "db78cba6fb6f1be187cc4f712a10c7d97524f782f6760fd5217d54b28992eede"), looks := true }, kinds := [], alts := [], laidByText := true, laidKinds := [.handle], laidTests := true, laidLooks := .later }
def SoaTimeCardSaid : Prop := Claim7.holds Tryd.pinned (.plain (OpenSpec.ofChange soaTimeSpec)) soaTimeCard

/-- THE TIED CARD OF 'hustingslaw10.SoaInward'. -/
def soaInwardCard : Claim7 := { stood := { row := soaInwardRow, standIns := [], harness := (true, "db78cba6fb6f1be187cc4f712a10c7d97524f782f6760fd5217d54b28992eede"), looks := true }, kinds := [], alts := [], laidByText := true, laidKinds := [.handle], laidTests := true, laidLooks := .later }
def SoaInwardCardSaid : Prop := Claim7.holds Tryd.pinned (.plain (OpenSpec.ofChange soaInwardSpec)) soaInwardCard

/-- THE TIED CARD OF 'hustingslaw10.SoaInner'. -/
def soaInnerCard : Claim7 := { stood := { row := soaInnerRow, standIns := [], harness := (true, "db78cba6fb6f1be187cc4f712a10c7d97524f782f6760fd5217d54b28992eede"), looks := true }, kinds := [], alts := [], laidByText := true, laidKinds := [.handle], laidTests := true, laidLooks := .later }
def SoaInnerCardSaid : Prop := Claim7.holds Tryd.pinned (.plain (OpenSpec.ofChange soaInnerSpec)) soaInnerCard

/-- THE TIED CARD OF 'hustingslaw10.SoaMore'. -/
def soaMoreCard : Claim7 := { stood := { row := soaMoreRow, standIns := [], harness := (true, "db78cba6fb6f1be187cc4f712a10c7d97524f782f6760fd5217d54b28992eede"), looks := true }, kinds := [], alts := [], laidByText := true, laidKinds := [.handle], laidTests := true, laidLooks := .later }
def SoaMoreCardSaid : Prop := Claim7.holds Tryd.pinned (.plain (OpenSpec.ofChange soaMoreSpec)) soaMoreCard

/-- THE SECOND FORM's CARD OF 'hustingslaw10.SoaFinds'. -/
def soaFindsUptoCard : Claim7 := { stood := { row := soaFindsUptoRow, standIns := [], harness := (true, "db78cba6fb6f1be187cc4f712a10c7d97524f782f6760fd5217d54b28992eede"), looks := true }, kinds := [], alts := [], laidByText := true, laidKinds := [.handle], laidTests := true, laidLooks := .later }
def SoaFindsUptoCardSaid : Prop := Claim7.holds Tryd.pinned (.plain (OpenSpec.upto soaFindsSpec)) soaFindsUptoCard

/-- THE SECOND FORM's CARD OF 'hustingslaw10.SoaNames'. -/
def soaNamesUptoCard : Claim7 := { stood := { row := soaNamesUptoRow, standIns := [], harness := (true, "db78cba6fb6f1be187cc4f712a10c7d97524f782f6760fd5217d54b28992eede"), looks := true }, kinds := [], alts := [], laidByText := true, laidKinds := [.handle], laidTests := true, laidLooks := .later }
def SoaNamesUptoCardSaid : Prop := Claim7.holds Tryd.pinned (.plain (OpenSpec.upto soaNamesSpec)) soaNamesUptoCard

/-- THE SECOND FORM's CARD OF 'hustingslaw10.SoaTime'. -/
def soaTimeUptoCard : Claim7 := { stood := { row := soaTimeUptoRow, standIns := [], harness := (true, "db78cba6fb6f1be187cc4f712a10c7d97524f782f6760fd5217d54b28992eede"), looks := true }, kinds := [], alts := [], laidByText := true, laidKinds := [.handle], laidTests := true, laidLooks := .later }
def SoaTimeUptoCardSaid : Prop := Claim7.holds Tryd.pinned (.plain (OpenSpec.upto soaTimeSpec)) soaTimeUptoCard

/-- THE SECOND FORM's CARD OF 'hustingslaw10.SoaInward'. -/
def soaInwardUptoCard : Claim7 := { stood := { row := soaInwardUptoRow, standIns := [], harness := (true, "db78cba6fb6f1be187cc4f712a10c7d97524f782f6760fd5217d54b28992eede"), looks := true }, kinds := [], alts := [], laidByText := true, laidKinds := [.handle], laidTests := true, laidLooks := .later }
def SoaInwardUptoCardSaid : Prop := Claim7.holds Tryd.pinned (.plain (OpenSpec.upto soaInwardSpec)) soaInwardUptoCard

/-- THE SECOND FORM's CARD OF 'hustingslaw10.SoaInner'. -/
def soaInnerUptoCard : Claim7 := { stood := { row := soaInnerUptoRow, standIns := [], harness := (true, "db78cba6fb6f1be187cc4f712a10c7d97524f782f6760fd5217d54b28992eede"), looks := true }, kinds := [], alts := [], laidByText := true, laidKinds := [.handle], laidTests := true, laidLooks := .later }
def SoaInnerUptoCardSaid : Prop := Claim7.holds Tryd.pinned (.plain (OpenSpec.upto soaInnerSpec)) soaInnerUptoCard

/-- THE SECOND FORM's CARD OF 'hustingslaw10.SoaMore'. -/
def soaMoreUptoCard : Claim7 := { stood := { row := soaMoreUptoRow, standIns := [], harness := (true, "db78cba6fb6f1be187cc4f712a10c7d97524f782f6760fd5217d54b28992eede"), looks := true }, kinds := [], alts := [], laidByText := true, laidKinds := [.handle], laidTests := true, laidLooks := .later }
def SoaMoreUptoCardSaid : Prop := Claim7.holds Tryd.pinned (.plain (OpenSpec.upto soaMoreSpec)) soaMoreUptoCard
end Rows
end Go.Proofs.YtomjiephbacocaaDoor
