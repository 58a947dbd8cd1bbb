/-
  DERIVED. GIVEN WITH THE SEED: THE CARDS: each row of YthckkpphnmmfdaaGreatDoorRows.lean that lists a variable, with what it lists TIED to the program's text (the seventh form; the later family's looks); each row that meets fmt, with fmt's text TOLD by the authors' own Lean function (tested against real Go, not proved from fmt's source: count such statements apart). THE CARD IS WHAT COUNTS. Prove the row's statement (the work); the ties are given (YthckkpphnmmfdaaGreatDoorTie.lean); close each card by the builder's one call (the guide's Derived/Test/ToyasCard.lean, 'card_holds'). Laid BY PROGRAM, IN A SANDBOX (cutbox-door.mjs). By AI agents, Wed Nov 11 2026. No macro, syntax, notation, axiom, sorry.
-/
import Derived.Test.YthckkpphnmmfdaaGreatDoorRows
import GoSem.ClaimSeven
namespace Go.Proofs.YthckkpphnmmfdaaGreatDoor
namespace Rows

/-- THE TIED CARD OF 'laws.FnExactCallText'. -/
def fnExactCallTextCard : Claim7 := { stood := { row := fnExactCallTextRow, standIns := [], harness := (true, "4e866340558d7d4f814e433ae05a72f34cc5fdab6f0fa6919db05416dbdfeb4a"), looks := true }, kinds := [], alts := [], laidByText := true, laidKinds := [.data, .data, .data, .data, .pinned], laidTests := true, laidLooks := .later }
def FnExactCallTextCardSaid : Prop := Claim7.holds Tryz.pinned (.plain (OpenSpec.ofChange fnExactCallTextSpec)) fnExactCallTextCard

/-- THE TIED CARD OF 'laws.FnExactTextEvent'. -/
def fnExactTextEventCard : Claim7 := { stood := { row := fnExactTextEventRow, standIns := [], harness := (true, "4e866340558d7d4f814e433ae05a72f34cc5fdab6f0fa6919db05416dbdfeb4a"), looks := true }, kinds := [], alts := [], laidByText := true, laidKinds := [.data, .data, .data, .data, .sentinel, .sentinel, .pinned], laidTests := true, laidLooks := .later }
def FnExactTextEventCardSaid : Prop := Claim7.holds Tryz.pinned (.plain (OpenSpec.ofChange fnExactTextEventSpec)) fnExactTextEventCard

/-- THE TIED CARD OF 'laws.FnExactTextCall'. -/
def fnExactTextCallCard : Claim7 := { stood := { row := fnExactTextCallRow, standIns := [], harness := (true, "4e866340558d7d4f814e433ae05a72f34cc5fdab6f0fa6919db05416dbdfeb4a"), looks := true }, kinds := [], alts := [], laidByText := true, laidKinds := [.data, .data, .data, .data, .sentinel, .sentinel, .pinned], laidTests := true, laidLooks := .later }
def FnExactTextCallCardSaid : Prop := Claim7.holds Tryz.pinned (.plain (OpenSpec.ofChange fnExactTextCallSpec)) fnExactTextCallCard

/-- THE TIED CARD OF 'laws.FnTexts'. -/
def fnTextsCard : Claim7 := { stood := { row := fnTextsRow, standIns := [], harness := (true, "4e866340558d7d4f814e433ae05a72f34cc5fdab6f0fa6919db05416dbdfeb4a"), looks := true }, kinds := [], alts := [], laidByText := true, laidKinds := [.data, .data, .data, .data, .sentinel, .sentinel, .pinned], laidTests := true, laidLooks := .later }
def FnTextsCardSaid : Prop := Claim7.holds Tryz.pinned (.plain (OpenSpec.ofChange fnTextsSpec)) fnTextsCard

/-- THE SECOND FORM's CARD OF 'laws.FnExactCallText'. -/
def fnExactCallTextUptoCard : Claim7 := { stood := { row := fnExactCallTextUptoRow, standIns := [], harness := (true, "4e866340558d7d4f814e433ae05a72f34cc5fdab6f0fa6919db05416dbdfeb4a"), looks := true }, kinds := [], alts := [], laidByText := true, laidKinds := [.data, .data, .data, .data, .pinned], laidTests := true, laidLooks := .later }
def FnExactCallTextUptoCardSaid : Prop := Claim7.holds Tryz.pinned (.plain (OpenSpec.upto fnExactCallTextSpec)) fnExactCallTextUptoCard

/-- THE SECOND FORM's CARD OF 'laws.FnExactTextEvent'. -/
def fnExactTextEventUptoCard : Claim7 := { stood := { row := fnExactTextEventUptoRow, standIns := [], harness := (true, "4e866340558d7d4f814e433ae05a72f34cc5fdab6f0fa6919db05416dbdfeb4a"), looks := true }, kinds := [], alts := [], laidByText := true, laidKinds := [.data, .data, .data, .data, .sentinel, .sentinel, .pinned], laidTests := true, laidLooks := .later }
def FnExactTextEventUptoCardSaid : Prop := Claim7.holds Tryz.pinned (.plain (OpenSpec.upto fnExactTextEventSpec)) fnExactTextEventUptoCard

/-- THE SECOND FORM's CARD OF 'laws.FnExactTextCall'. -/
def fnExactTextCallUptoCard : Claim7 := { stood := { row := fnExactTextCallUptoRow, standIns := [], harness := (true, "4e866340558d7d4f814e433ae05a72f34cc5fdab6f0fa6919db05416dbdfeb4a"), looks := true }, kinds := [], alts := [], laidByText := true, laidKinds := [.data, .data, .data, .data, .sentinel, .sentinel, .pinned], laidTests := true, laidLooks := .later }
def FnExactTextCallUptoCardSaid : Prop := Claim7.holds Tryz.pinned (.plain (OpenSpec.upto fnExactTextCallSpec)) fnExactTextCallUptoCard

/-- THE SECOND FORM's CARD OF 'laws.FnTexts'. -/
def fnTextsUptoCard : Claim7 := { stood := { row := fnTextsUptoRow, standIns := [], harness := (true, "4e866340558d7d4f814e433ae05a72f34cc5fdab6f0fa6919db05416dbdfeb4a"), looks := true }, kinds := [], alts := [], laidByText := true, laidKinds := [.data, .data, .data, .data, .sentinel, .sentinel, .pinned], laidTests := true, laidLooks := .later }
def FnTextsUptoCardSaid : Prop := Claim7.holds Tryz.pinned (.plain (OpenSpec.upto fnTextsSpec)) fnTextsUptoCard
end Rows
end Go.Proofs.YthckkpphnmmfdaaGreatDoor
