/-
  DERIVED. GIVEN WITH THE SEED: THE CARDS: each row of YtladneaaepcdbaaDoorRows.lean that lists a variable, with what it lists TIED to the program's text (the seventh form; the later family's looks); each row that meets fmt, with fmt's text TOLD by the authors' own Lean function (tested against real Go, not proved from fmt's source: count such statements apart). THE CARD IS WHAT COUNTS. Prove the row's statement (the work); the ties are given (YtladneaaepcdbaaDoorTie.lean); close each card by the builder's one call (the guide's Derived/Test/ToyasCard.lean, 'card_holds'). Laid BY PROGRAM, IN A SANDBOX (cutbox-door.mjs). By AI agents, Wed Nov 11 2026. No macro, syntax, notation, axiom, sorry.
-/
import Derived.Test.YtladneaaepcdbaaDoorRows
import GoSem.ClaimSeven
namespace Go.Proofs.YtladneaaepcdbaaDoor
namespace Rows

/-- THE TIED CARD OF 'marqueelaw06.TreeSame'. -/
def treeSameCard : Claim7 := { stood := { row := treeSameRow, standIns := [], harness := (true, "3888d51d92a8e77c34557217fc6d142f2b897d35b0b4937cb2481582a9f5c552"), looks := false }, kinds := [], alts := [], laidByText := true, laidKinds := [.data, .listed, .data, .pinned, .pinned], laidTests := true, laidLooks := .later }
def TreeSameCardSaid : Prop := Claim7.holds Tryd.pinned (.plain (OpenSpec.ofChange treeSameSpec)) treeSameCard

/-- THE TIED CARD OF 'marqueelaw06.TreeAggs'. -/
def treeAggsCard : Claim7 := { stood := { row := treeAggsRow, standIns := [], harness := (true, "3888d51d92a8e77c34557217fc6d142f2b897d35b0b4937cb2481582a9f5c552"), looks := false }, kinds := [], alts := [], laidByText := true, laidKinds := [.data, .listed, .data, .pinned, .pinned], laidTests := true, laidLooks := .later }
def TreeAggsCardSaid : Prop := Claim7.holds Tryd.pinned (.plain (OpenSpec.ofChange treeAggsSpec)) treeAggsCard

/-- THE SECOND FORM's CARD OF 'marqueelaw06.TreeSame'. -/
def treeSameUptoCard : Claim7 := { stood := { row := treeSameUptoRow, standIns := [], harness := (true, "3888d51d92a8e77c34557217fc6d142f2b897d35b0b4937cb2481582a9f5c552"), looks := false }, kinds := [], alts := [], laidByText := true, laidKinds := [.data, .listed, .data, .pinned, .pinned], laidTests := true, laidLooks := .later }
def TreeSameUptoCardSaid : Prop := Claim7.holds Tryd.pinned (.plain (OpenSpec.upto treeSameSpec)) treeSameUptoCard

/-- THE SECOND FORM's CARD OF 'marqueelaw06.TreeAggs'. -/
def treeAggsUptoCard : Claim7 := { stood := { row := treeAggsUptoRow, standIns := [], harness := (true, "3888d51d92a8e77c34557217fc6d142f2b897d35b0b4937cb2481582a9f5c552"), looks := false }, kinds := [], alts := [], laidByText := true, laidKinds := [.data, .listed, .data, .pinned, .pinned], laidTests := true, laidLooks := .later }
def TreeAggsUptoCardSaid : Prop := Claim7.holds Tryd.pinned (.plain (OpenSpec.upto treeAggsSpec)) treeAggsUptoCard
end Rows
end Go.Proofs.YtladneaaepcdbaaDoor
