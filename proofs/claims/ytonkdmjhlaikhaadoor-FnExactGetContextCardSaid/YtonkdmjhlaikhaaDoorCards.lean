/-
  DERIVED. GIVEN WITH THE SEED: THE CARDS: each row of YtonkdmjhlaikhaaDoorRows.lean that lists a variable, with what it lists TIED to the program's text (the seventh form; the later family's looks); each row that meets fmt, with fmt's text TOLD by the authors' own Lean function (tested against real Go, not proved from fmt's source: count such statements apart). THE CARD IS WHAT COUNTS. Prove the row's statement (the work); the ties are given (YtonkdmjhlaikhaaDoorTie.lean); close each card by the builder's one call (the guide's Derived/Test/ToyasCard.lean, 'card_holds'). Laid BY PROGRAM, IN A SANDBOX (cutbox-door.mjs). By AI agents, Wed Nov 11 2026. No macro, syntax, notation, axiom, sorry.
-/
import Derived.Test.YtonkdmjhlaikhaaDoorRows
import GoSem.ClaimSeven
namespace Go.Proofs.YtonkdmjhlaikhaaDoor
namespace Rows

/-- THE TIED CARD OF 'laws.FnExactGetUvarint'. -/
def fnExactGetUvarintCard : Claim7 := { stood := { row := fnExactGetUvarintRow, standIns := [], harness := (true, "8f9eb482797e376c2979cf95a794933f9e9db2e1c30d786e30c1e7541ac61565"), looks := true }, kinds := [], alts := [], laidByText := true, laidKinds := [.handle, .sentinel], laidTests := true, laidLooks := .later }
def FnExactGetUvarintCardSaid : Prop := Claim7.holds Tryd.pinned (.plain (OpenSpec.ofChange fnExactGetUvarintSpec)) fnExactGetUvarintCard

/-- THE TIED CARD OF 'laws.FnExactGetText'. -/
def fnExactGetTextCard : Claim7 := { stood := { row := fnExactGetTextRow, standIns := [], harness := (true, "8f9eb482797e376c2979cf95a794933f9e9db2e1c30d786e30c1e7541ac61565"), looks := true }, kinds := [], alts := [], laidByText := true, laidKinds := [.handle, .sentinel], laidTests := true, laidLooks := .later }
def FnExactGetTextCardSaid : Prop := Claim7.holds Tryd.pinned (.plain (OpenSpec.ofChange fnExactGetTextSpec)) fnExactGetTextCard

/-- THE TIED CARD OF 'laws.FnExactGetContext'. -/
def fnExactGetContextCard : Claim7 := { stood := { row := fnExactGetContextRow, standIns := [], harness := (true, "8f9eb482797e376c2979cf95a794933f9e9db2e1c30d786e30c1e7541ac61565"), looks := true }, kinds := [], alts := [], laidByText := true, laidKinds := [.sentinel], laidTests := true, laidLooks := .later }
def FnExactGetContextCardSaid : Prop := Claim7.holds Tryd.pinned (.plain (OpenSpec.ofChange fnExactGetContextSpec)) fnExactGetContextCard

/-- THE TIED CARD OF 'laws.FnNumbers'. -/
def fnNumbersCard : Claim7 := { stood := { row := fnNumbersRow, standIns := [], harness := (true, "8f9eb482797e376c2979cf95a794933f9e9db2e1c30d786e30c1e7541ac61565"), looks := true }, kinds := [], alts := [], laidByText := true, laidKinds := [.handle, .sentinel], laidTests := true, laidLooks := .later }
def FnNumbersCardSaid : Prop := Claim7.holds Tryd.pinned (.plain (OpenSpec.ofChange fnNumbersSpec)) fnNumbersCard

/-- THE TIED CARD OF 'laws.FnFramed'. -/
def fnFramedCard : Claim7 := { stood := { row := fnFramedRow, standIns := [], harness := (true, "8f9eb482797e376c2979cf95a794933f9e9db2e1c30d786e30c1e7541ac61565"), looks := true }, kinds := [], alts := [], laidByText := true, laidKinds := [.handle, .sentinel], laidTests := true, laidLooks := .later }
def FnFramedCardSaid : Prop := Claim7.holds Tryd.pinned (.plain (OpenSpec.ofChange fnFramedSpec)) fnFramedCard

/-- THE SECOND FORM's CARD OF 'laws.FnExactGetUvarint'. -/
def fnExactGetUvarintUptoCard : Claim7 := { stood := { row := fnExactGetUvarintUptoRow, standIns := [], harness := (true, "8f9eb482797e376c2979cf95a794933f9e9db2e1c30d786e30c1e7541ac61565"), looks := true }, kinds := [], alts := [], laidByText := true, laidKinds := [.handle, .sentinel], laidTests := true, laidLooks := .later }
def FnExactGetUvarintUptoCardSaid : Prop := Claim7.holds Tryd.pinned (.plain (OpenSpec.upto fnExactGetUvarintSpec)) fnExactGetUvarintUptoCard

/-- THE SECOND FORM's CARD OF 'laws.FnExactGetText'. -/
def fnExactGetTextUptoCard : Claim7 := { stood := { row := fnExactGetTextUptoRow, standIns := [], harness := (true, "8f9eb482797e376c2979cf95a794933f9e9db2e1c30d786e30c1e7541ac61565"), looks := true }, kinds := [], alts := [], laidByText := true, laidKinds := [.handle, .sentinel], laidTests := true, laidLooks := .later }
def FnExactGetTextUptoCardSaid : Prop := Claim7.holds Tryd.pinned (.plain (OpenSpec.upto fnExactGetTextSpec)) fnExactGetTextUptoCard

/-- THE SECOND FORM's CARD OF 'laws.FnExactGetContext'. -/
def fnExactGetContextUptoCard : Claim7 := { stood := { row := fnExactGetContextUptoRow, standIns := [], harness := (true, "8f9eb482797e376c2979cf95a794933f9e9db2e1c30d786e30c1e7541ac61565"), looks := true }, kinds := [], alts := [], laidByText := true, laidKinds := [.sentinel], laidTests := true, laidLooks := .later }
def FnExactGetContextUptoCardSaid : Prop := Claim7.holds Tryd.pinned (.plain (OpenSpec.upto fnExactGetContextSpec)) fnExactGetContextUptoCard

/-- THE SECOND FORM's CARD OF 'laws.FnNumbers'. -/
def fnNumbersUptoCard : Claim7 := { stood := { row := fnNumbersUptoRow, standIns := [], harness := (true, "8f9eb482797e376c2979cf95a794933f9e9db2e1c30d786e30c1e7541ac61565"), looks := true }, kinds := [], alts := [], laidByText := true, laidKinds := [.handle, .sentinel], laidTests := true, laidLooks := .later }
def FnNumbersUptoCardSaid : Prop := Claim7.holds Tryd.pinned (.plain (OpenSpec.upto fnNumbersSpec)) fnNumbersUptoCard

/-- THE SECOND FORM's CARD OF 'laws.FnFramed'. -/
def fnFramedUptoCard : Claim7 := { stood := { row := fnFramedUptoRow, standIns := [], harness := (true, "8f9eb482797e376c2979cf95a794933f9e9db2e1c30d786e30c1e7541ac61565"), looks := true }, kinds := [], alts := [], laidByText := true, laidKinds := [.handle, .sentinel], laidTests := true, laidLooks := .later }
def FnFramedUptoCardSaid : Prop := Claim7.holds Tryd.pinned (.plain (OpenSpec.upto fnFramedSpec)) fnFramedUptoCard
end Rows
end Go.Proofs.YtonkdmjhlaikhaaDoor
