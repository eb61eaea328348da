/-
  DERIVED. GIVEN WITH THE SEED: THE CARDS: each row of YtkpopiejnimcoaaGreatDoorRows.lean that lists a variable, with what it lists TIED to the program's text (the seventh form; the later family's looks); each row that meets fmt, with fmt's text TOLD by the authors' own Lean function (tested against real Go, not proved from fmt's source: count such statements apart). THE CARD IS WHAT COUNTS. Prove the row's statement (the work); the ties are given (YtkpopiejnimcoaaGreatDoorTie.lean); close each card by the builder's one call (the guide's Derived/Test/ToyasCard.lean, 'card_holds'). Laid BY PROGRAM, IN A SANDBOX (cutbox-door.mjs). By AI agents, Wed Nov 11 2026. No macro, syntax, notation, axiom, sorry.
-/
import Derived.Test.YtkpopiejnimcoaaGreatDoorRows
import GoSem.ClaimSeven
namespace Go.Proofs.YtkpopiejnimcoaaGreatDoor
namespace Rows

/-- THE TIED CARD OF 'garmentlaw59.AuditClean'. -/
def auditCleanCard : Claim7 := { stood := { row := auditCleanRow, standIns := [], harness := (true, "8097b4fbc8c2066e986670625974734057a379d3e058a5960a99b91504ad7bf7"), looks := false }, kinds := [], alts := [], laidByText := true, laidKinds := [.data, .data, .data, .data], laidTests := true, laidLooks := .later }
def AuditCleanCardSaid : Prop := Claim7.holds Tryz.pinned (.plain (OpenSpec.ofChange auditCleanSpec)) auditCleanCard

/-- THE TIED CARD OF 'garmentlaw59.AuditGarments'. -/
def auditGarmentsCard : Claim7 := { stood := { row := auditGarmentsRow, standIns := [], harness := (true, "8097b4fbc8c2066e986670625974734057a379d3e058a5960a99b91504ad7bf7"), looks := false }, kinds := [], alts := [], laidByText := true, laidKinds := [.data, .data, .data, .data], laidTests := true, laidLooks := .later }
def AuditGarmentsCardSaid : Prop := Claim7.holds Tryz.pinned (.plain (OpenSpec.ofChange auditGarmentsSpec)) auditGarmentsCard

/-- THE TIED CARD OF 'garmentlaw59.AuditPays'. -/
def auditPaysCard : Claim7 := { stood := { row := auditPaysRow, standIns := [], harness := (true, "8097b4fbc8c2066e986670625974734057a379d3e058a5960a99b91504ad7bf7"), looks := false }, kinds := [], alts := [], laidByText := true, laidKinds := [.data, .data, .data, .data], laidTests := true, laidLooks := .later }
def AuditPaysCardSaid : Prop := Claim7.holds Tryz.pinned (.plain (OpenSpec.ofChange auditPaysSpec)) auditPaysCard

/-- THE TIED CARD OF 'garmentlaw59.AuditShades'. -/
def auditShadesCard : Claim7 := { stood := { row := auditShadesRow, standIns := [], harness := (true, "8097b4fbc8c2066e986670625974734057a379d3e058a5960a99b91504ad7bf7"), looks := false }, kinds := [], alts := [], laidByText := true, laidKinds := [.data, .data, .data, .data], laidTests := true, laidLooks := .later }
def AuditShadesCardSaid : Prop := Claim7.holds Tryz.pinned (.plain (OpenSpec.ofChange auditShadesSpec)) auditShadesCard

/-- THE TIED CARD OF 'garmentlaw59.AuditCloth'. -/
def auditClothCard : Claim7 := { stood := { row := auditClothRow, standIns := [], harness := (true, "8097b4fbc8c2066e986670625974734057a379d3e058a5960a99b91504ad7bf7"), looks := false }, kinds := [], alts := [], laidByText := true, laidKinds := [.data, .data, .data, .data], laidTests := true, laidLooks := .later }
def AuditClothCardSaid : Prop := Claim7.holds Tryz.pinned (.plain (OpenSpec.ofChange auditClothSpec)) auditClothCard

/-- THE TIED CARD OF 'garmentlaw59.AuditScans'. -/
def auditScansCard : Claim7 := { stood := { row := auditScansRow, standIns := [], harness := (true, "8097b4fbc8c2066e986670625974734057a379d3e058a5960a99b91504ad7bf7"), looks := false }, kinds := [], alts := [], laidByText := true, laidKinds := [.data, .data, .data, .data], laidTests := true, laidLooks := .later }
def AuditScansCardSaid : Prop := Claim7.holds Tryz.pinned (.plain (OpenSpec.ofChange auditScansSpec)) auditScansCard

/-- THE SECOND FORM's CARD OF 'garmentlaw59.AuditClean'. -/
def auditCleanUptoCard : Claim7 := { stood := { row := auditCleanUptoRow, standIns := [], harness := (true, "8097b4fbc8c2066e986670625974734057a379d3e058a5960a99b91504ad7bf7"), looks := false }, kinds := [], alts := [], laidByText := true, laidKinds := [.data, .data, .data, .data], laidTests := true, laidLooks := .later }
def AuditCleanUptoCardSaid : Prop := Claim7.holds Tryz.pinned (.plain (OpenSpec.upto auditCleanSpec)) auditCleanUptoCard

/-- THE SECOND FORM's CARD OF 'garmentlaw59.AuditGarments'. -/
def auditGarmentsUptoCard : Claim7 := { stood := { row := auditGarmentsUptoRow, standIns := [], harness := (true, "8097b4fbc8c2066e986670625974734057a379d3e058a5960a99b91504ad7bf7"), looks := false }, kinds := [], alts := [], laidByText := true, laidKinds := [.data, .data, .data, .data], laidTests := true, laidLooks := .later }
def AuditGarmentsUptoCardSaid : Prop := Claim7.holds Tryz.pinned (.plain (OpenSpec.upto auditGarmentsSpec)) auditGarmentsUptoCard

/-- THE SECOND FORM's CARD OF 'garmentlaw59.AuditPays'. -/
def auditPaysUptoCard : Claim7 := { stood := { row := auditPaysUptoRow, standIns := [], harness := (true, "8097b4fbc8c2066e986670625974734057a379d3e058a5960a99b91504ad7bf7"), looks := false }, kinds := [], alts := [], laidByText := true, laidKinds := [.data, .data, .data, .data], laidTests := true, laidLooks := .later }
def AuditPaysUptoCardSaid : Prop := Claim7.holds Tryz.pinned (.plain (OpenSpec.upto auditPaysSpec)) auditPaysUptoCard

/-- THE SECOND FORM's CARD OF 'garmentlaw59.AuditShades'. -/
def auditShadesUptoCard : Claim7 := { stood := { row := auditShadesUptoRow, standIns := [], harness := (true, "8097b4fbc8c2066e986670625974734057a379d3e058a5960a99b91504ad7bf7"), looks := false }, kinds := [], alts := [], laidByText := true, laidKinds := [.data, .data, .data, .data], laidTests := true, laidLooks := .later }
def AuditShadesUptoCardSaid : Prop := Claim7.holds Tryz.pinned (.plain (OpenSpec.upto auditShadesSpec)) auditShadesUptoCard

/-- THE SECOND FORM's CARD OF 'garmentlaw59.AuditCloth'. -/
def auditClothUptoCard : Claim7 := { stood := { row := auditClothUptoRow, standIns := [], harness := (true, "8097b4fbc8c2066e986670625974734057a379d3e058a5960a99b91504ad7bf7"), looks := false }, kinds := [], alts := [], laidByText := true, laidKinds := [.data, .data, .data, .data], laidTests := true, laidLooks := .later }
def AuditClothUptoCardSaid : Prop := Claim7.holds Tryz.pinned (.plain (OpenSpec.upto auditClothSpec)) auditClothUptoCard

/-- THE SECOND FORM's CARD OF 'garmentlaw59.AuditScans'. -/
def auditScansUptoCard : Claim7 := { stood := { row := auditScansUptoRow, standIns := [], harness := (true, "8097b4fbc8c2066e986670625974734057a379d3e058a5960a99b91504ad7bf7"), looks := false }, kinds := [], alts := [], laidByText := true, laidKinds := [.data, .data, .data, .data], laidTests := true, laidLooks := .later }
def AuditScansUptoCardSaid : Prop := Claim7.holds Tryz.pinned (.plain (OpenSpec.upto auditScansSpec)) auditScansUptoCard
end Rows
end Go.Proofs.YtkpopiejnimcoaaGreatDoor
