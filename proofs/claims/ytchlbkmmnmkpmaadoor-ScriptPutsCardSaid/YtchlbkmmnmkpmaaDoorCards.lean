/-
  DERIVED. GIVEN WITH THE SEED: THE CARDS: each row of YtchlbkmmnmkpmaaDoorRows.lean that lists a variable, with what it lists TIED to the program's text (the seventh form; the later family's looks); each row that meets fmt, with fmt's text TOLD by the authors' own Lean function (tested against real Go, not proved from fmt's source: count such statements apart). THE CARD IS WHAT COUNTS. Prove the row's statement (the work); the ties are given (YtchlbkmmnmkpmaaDoorTie.lean); close each card by the builder's one call (the guide's Derived/Test/ToyasCard.lean, 'card_holds'). Laid BY PROGRAM, IN A SANDBOX (cutbox-door.mjs). By AI agents, Wed Nov 11 2026. No macro, syntax, notation, axiom, sorry.
-/
import Derived.Test.YtchlbkmmnmkpmaaDoorRows
import GoSem.ClaimSeven
namespace Go.Proofs.YtchlbkmmnmkpmaaDoor
namespace Rows

/-- THE TIED CARD OF 'hucksterlaw33.ScriptGets'. -/
def scriptGetsCard : Claim7 := { stood := { row := scriptGetsRow, standIns := [], harness := (true, "a038e838ec35d0249d30ddf1868697644a06bb6ac5a01309ed91546283f41274"), looks := true }, kinds := [], alts := [], laidByText := true, laidKinds := [.data, .data, .data, .data, .sentinel, .sentinel, .pinned], laidTests := true, laidLooks := .later }
def ScriptGetsCardSaid : Prop := Claim7.holds Tryd.pinned (.plain (OpenSpec.ofChange scriptGetsSpec)) scriptGetsCard

/-- THE TIED CARD OF 'hucksterlaw33.ScriptOne'. -/
def scriptOneCard : Claim7 := { stood := { row := scriptOneRow, standIns := [], harness := (true, "a038e838ec35d0249d30ddf1868697644a06bb6ac5a01309ed91546283f41274"), looks := true }, kinds := [], alts := [], laidByText := true, laidKinds := [.data, .data, .data, .data, .sentinel, .sentinel, .pinned], laidTests := true, laidLooks := .later }
def ScriptOneCardSaid : Prop := Claim7.holds Tryd.pinned (.plain (OpenSpec.ofChange scriptOneSpec)) scriptOneCard

/-- THE TIED CARD OF 'hucksterlaw33.ScriptPuts'. -/
def scriptPutsCard : Claim7 := { stood := { row := scriptPutsRow, standIns := [], harness := (true, "a038e838ec35d0249d30ddf1868697644a06bb6ac5a01309ed91546283f41274"), looks := true }, kinds := [], alts := [], laidByText := true, laidKinds := [.data, .data, .data, .data, .sentinel, .sentinel, .pinned], laidTests := true, laidLooks := .later }
def ScriptPutsCardSaid : Prop := Claim7.holds Tryd.pinned (.plain (OpenSpec.ofChange scriptPutsSpec)) scriptPutsCard

/-- THE SECOND FORM's CARD OF 'hucksterlaw33.ScriptGets'. -/
def scriptGetsUptoCard : Claim7 := { stood := { row := scriptGetsUptoRow, standIns := [], harness := (true, "a038e838ec35d0249d30ddf1868697644a06bb6ac5a01309ed91546283f41274"), looks := true }, kinds := [], alts := [], laidByText := true, laidKinds := [.data, .data, .data, .data, .sentinel, .sentinel, .pinned], laidTests := true, laidLooks := .later }
def ScriptGetsUptoCardSaid : Prop := Claim7.holds Tryd.pinned (.plain (OpenSpec.upto scriptGetsSpec)) scriptGetsUptoCard

/-- THE SECOND FORM's CARD OF 'hucksterlaw33.ScriptOne'. -/
def scriptOneUptoCard : Claim7 := { stood := { row := scriptOneUptoRow, standIns := [], harness := (true, "a038e838ec35d0249d30ddf1868697644a06bb6ac5a01309ed91546283f41274"), looks := true }, kinds := [], alts := [], laidByText := true, laidKinds := [.data, .data, .data, .data, .sentinel, .sentinel, .pinned], laidTests := true, laidLooks := .later }
def ScriptOneUptoCardSaid : Prop := Claim7.holds Tryd.pinned (.plain (OpenSpec.upto scriptOneSpec)) scriptOneUptoCard

/-- THE SECOND FORM's CARD OF 'hucksterlaw33.ScriptPuts'. -/
def scriptPutsUptoCard : Claim7 := { stood := { row := scriptPutsUptoRow, standIns := [], harness := (true, "a038e838ec35d0249d30ddf1868697644a06bb6ac5a01309ed91546283f41274"), looks := true }, kinds := [], alts := [], laidByText := true, laidKinds := [.data, .data, .data, .data, .sentinel, .sentinel, .pinned], laidTests := true, laidLooks := .later }
def ScriptPutsUptoCardSaid : Prop := Claim7.holds Tryd.pinned (.plain (OpenSpec.upto scriptPutsSpec)) scriptPutsUptoCard
end Rows
end Go.Proofs.YtchlbkmmnmkpmaaDoor
