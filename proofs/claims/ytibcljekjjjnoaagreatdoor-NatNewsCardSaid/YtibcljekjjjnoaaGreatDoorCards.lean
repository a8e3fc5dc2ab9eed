/-
  DERIVED. GIVEN WITH THE SEED: THE CARDS: each row of YtibcljekjjjnoaaGreatDoorRows.lean that lists a variable, with what it lists TIED to the program's text (the seventh form; the later family's looks); each row that meets fmt, with fmt's text TOLD by the authors' own Lean function (tested against real Go, not proved from fmt's source: count such statements apart). THE CARD IS WHAT COUNTS. Prove the row's statement (the work); the ties are given (YtibcljekjjjnoaaGreatDoorTie.lean); close each card by the builder's one call (the guide's Derived/Test/ToyasCard.lean, 'card_holds'). Laid BY PROGRAM, IN A SANDBOX (cutbox-door.mjs). By AI agents, Wed Nov 11 2026. No macro, syntax, notation, axiom, sorry.
-/
import Derived.Test.YtibcljekjjjnoaaGreatDoorRows
import GoSem.ClaimSeven
namespace Go.Proofs.YtibcljekjjjnoaaGreatDoor
namespace Rows

/-- THE TIED CARD OF 'fanlightlaw16.NatBounds'. -/
def natBoundsCard : Claim7 := { stood := { row := natBoundsRow, standIns := [], harness := (true, "232f80545412ee8144cdcf124eec2b3b138c2d90ad1f225f974eaea11d337379"), looks := false }, kinds := [], alts := [], laidByText := true, laidKinds := [.data], laidTests := true, laidLooks := .later }
def NatBoundsCardSaid : Prop := Claim7.holds Tryz.pinned (.plain (OpenSpec.ofChange natBoundsSpec)) natBoundsCard

/-- THE TIED CARD OF 'fanlightlaw16.NatNews'. -/
def natNewsCard : Claim7 := { stood := { row := natNewsRow, standIns := [], harness := (true, "232f80545412ee8144cdcf124eec2b3b138c2d90ad1f225f974eaea11d337379"), looks := false }, kinds := [], alts := [], laidByText := true, laidKinds := [.data], laidTests := true, laidLooks := .later }
def NatNewsCardSaid : Prop := Claim7.holds Tryz.pinned (.plain (OpenSpec.ofChange natNewsSpec)) natNewsCard

/-- THE TIED CARD OF 'fanlighttop.FanlightNoPort'. -/
def fanlightNoPortCard : Claim7 := { stood := { row := fanlightNoPortRow, standIns := [], harness := (true, "232f80545412ee8144cdcf124eec2b3b138c2d90ad1f225f974eaea11d337379"), looks := false }, kinds := [], alts := [], laidByText := true, laidKinds := [.data], laidTests := true, laidLooks := .later }
def FanlightNoPortCardSaid : Prop := Claim7.holds Tryz.pinned (.plain (OpenSpec.ofChange fanlightNoPortSpec)) fanlightNoPortCard

/-- THE SECOND FORM's CARD OF 'fanlightlaw16.NatBounds'. -/
def natBoundsUptoCard : Claim7 := { stood := { row := natBoundsUptoRow, standIns := [], harness := (true, "232f80545412ee8144cdcf124eec2b3b138c2d90ad1f225f974eaea11d337379"), looks := false }, kinds := [], alts := [], laidByText := true, laidKinds := [.data], laidTests := true, laidLooks := .later }
def NatBoundsUptoCardSaid : Prop := Claim7.holds Tryz.pinned (.plain (OpenSpec.upto natBoundsSpec)) natBoundsUptoCard

/-- THE SECOND FORM's CARD OF 'fanlightlaw16.NatNews'. -/
def natNewsUptoCard : Claim7 := { stood := { row := natNewsUptoRow, standIns := [], harness := (true, "232f80545412ee8144cdcf124eec2b3b138c2d90ad1f225f974eaea11d337379"), looks := false }, kinds := [], alts := [], laidByText := true, laidKinds := [.data], laidTests := true, laidLooks := .later }
def NatNewsUptoCardSaid : Prop := Claim7.holds Tryz.pinned (.plain (OpenSpec.upto natNewsSpec)) natNewsUptoCard

/-- THE SECOND FORM's CARD OF 'fanlighttop.FanlightNoPort'. -/
def fanlightNoPortUptoCard : Claim7 := { stood := { row := fanlightNoPortUptoRow, standIns := [], harness := (true, "232f80545412ee8144cdcf124eec2b3b138c2d90ad1f225f974eaea11d337379"), looks := false }, kinds := [], alts := [], laidByText := true, laidKinds := [.data], laidTests := true, laidLooks := .later }
def FanlightNoPortUptoCardSaid : Prop := Claim7.holds Tryz.pinned (.plain (OpenSpec.upto fanlightNoPortSpec)) fanlightNoPortUptoCard
end Rows
end Go.Proofs.YtibcljekjjjnoaaGreatDoor
