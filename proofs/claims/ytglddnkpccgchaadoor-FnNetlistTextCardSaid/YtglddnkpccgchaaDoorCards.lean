/-
  DERIVED. GIVEN WITH THE SEED: THE CARDS: each row of YtglddnkpccgchaaDoorRows.lean that lists a variable, with what it lists TIED to the program's text (the seventh form; the later family's looks); each row that meets fmt, with fmt's text TOLD by the authors' own Lean function (tested against real Go, not proved from fmt's source: count such statements apart). THE CARD IS WHAT COUNTS. Prove the row's statement (the work); the ties are given (YtglddnkpccgchaaDoorTie.lean); close each card by the builder's one call (the guide's Derived/Test/ToyasCard.lean, 'card_holds'). Laid BY PROGRAM, IN A SANDBOX (cutbox-door.mjs). By AI agents, Wed Nov 11 2026. No macro, syntax, notation, axiom, sorry.
-/
import Derived.Test.YtglddnkpccgchaaDoorRows
import GoSem.ClaimSeven
namespace Go.Proofs.YtglddnkpccgchaaDoor
namespace Rows

/-- THE TIED CARD OF 'laws.FnExactFormatNetlist'. -/
def fnExactFormatNetlistCard : Claim7 := { stood := { row := fnExactFormatNetlistRow, standIns := [], harness := (true, "45493ede0ac1bb0b948a5843b034c742df6c4fae2a88323691caa46b38b49886"), looks := true }, kinds := [], alts := [], laidByText := true, laidKinds := [.data, .data, .data], laidTests := true, laidLooks := .later }
def FnExactFormatNetlistCardSaid : Prop := Claim7.holds Tryd.pinned (.plain (OpenSpec.ofChange fnExactFormatNetlistSpec)) fnExactFormatNetlistCard

/-- THE TIED CARD OF 'laws.FnExactParseNetlist'. -/
def fnExactParseNetlistCard : Claim7 := { stood := { row := fnExactParseNetlistRow, standIns := [], harness := (true, "45493ede0ac1bb0b948a5843b034c742df6c4fae2a88323691caa46b38b49886"), looks := true }, kinds := [], alts := [], laidByText := true, laidKinds := [.data, .data, .data, .data, .sentinel, .sentinel, .pinned], laidTests := true, laidLooks := .later }
def FnExactParseNetlistCardSaid : Prop := Claim7.holds Tryd.pinned (.plain (OpenSpec.ofChange fnExactParseNetlistSpec)) fnExactParseNetlistCard

/-- THE TIED CARD OF 'laws.FnNetlistText'. -/
def fnNetlistTextCard : Claim7 := { stood := { row := fnNetlistTextRow, standIns := [], harness := (true, "45493ede0ac1bb0b948a5843b034c742df6c4fae2a88323691caa46b38b49886"), looks := true }, kinds := [], alts := [], laidByText := true, laidKinds := [.data, .data, .data, .data, .sentinel, .sentinel, .pinned], laidTests := true, laidLooks := .later }
def FnNetlistTextCardSaid : Prop := Claim7.holds Tryd.pinned (.plain (OpenSpec.ofChange fnNetlistTextSpec)) fnNetlistTextCard

/-- THE SECOND FORM's CARD OF 'laws.FnExactFormatNetlist'. -/
def fnExactFormatNetlistUptoCard : Claim7 := { stood := { row := fnExactFormatNetlistUptoRow, standIns := [], harness := (true, "45493ede0ac1bb0b948a5843b034c742df6c4fae2a88323691caa46b38b49886"), looks := true }, kinds := [], alts := [], laidByText := true, laidKinds := [.data, .data, .data], laidTests := true, laidLooks := .later }
def FnExactFormatNetlistUptoCardSaid : Prop := Claim7.holds Tryd.pinned (.plain (OpenSpec.upto fnExactFormatNetlistSpec)) fnExactFormatNetlistUptoCard

/-- THE SECOND FORM's CARD OF 'laws.FnExactParseNetlist'. -/
def fnExactParseNetlistUptoCard : Claim7 := { stood := { row := fnExactParseNetlistUptoRow, standIns := [], harness := (true, "45493ede0ac1bb0b948a5843b034c742df6c4fae2a88323691caa46b38b49886"), looks := true }, kinds := [], alts := [], laidByText := true, laidKinds := [.data, .data, .data, .data, .sentinel, .sentinel, .pinned], laidTests := true, laidLooks := .later }
def FnExactParseNetlistUptoCardSaid : Prop := Claim7.holds Tryd.pinned (.plain (OpenSpec.upto fnExactParseNetlistSpec)) fnExactParseNetlistUptoCard

/-- THE SECOND FORM's CARD OF 'laws.FnNetlistText'. -/
def fnNetlistTextUptoCard : Claim7 := { stood := { row := fnNetlistTextUptoRow, standIns := [], harness := (true, "45493ede0ac1bb0b948a5843b034c742df6c4fae2a88323691caa46b38b49886"), looks := true }, kinds := [], alts := [], laidByText := true, laidKinds := [.data, .data, .data, .data, .sentinel, .sentinel, .pinned], laidTests := true, laidLooks := .later }
def FnNetlistTextUptoCardSaid : Prop := Claim7.holds Tryd.pinned (.plain (OpenSpec.upto fnNetlistTextSpec)) fnNetlistTextUptoCard
end Rows
end Go.Proofs.YtglddnkpccgchaaDoor
