/-
  No cell of these rows narrows 'for every input' (looked for: loops, veiled, ifaces, maps, wideKeys, modest, calm, conditions, laid).
  DERIVED. THE GIVEN ROWS OF THIS SEAT. 4 by the template 'for every input the law returns true; each argument reads behind the call as it read before'; 0 by the template 'total and deterministic' (their statements: YtjpedhcgokiojaaGreatTotals.lean).
  GIVEN WITH THE SEED: the statements are not yours to turn. If you find one false, say at which input.
  Laid BY PROGRAM, IN A SANDBOX (cutbox-rows.mjs): the forced cells as the released guide's own fill.sh prints them over the translation e69f72f36b82eb44… (all of the seat's roots in one cut). By AI agents, Wed Nov 11 2026. No macro, syntax, notation, axiom, sorry.
-/
import Derived.Test.YtjpedhcgokiojaaGreatChecked
import GoSem.Claim
import GoSem.ClaimJoined
import GoSem.ClaimMapViews
import Derived.JoinedTies
import Derived.KernelRfl
namespace Go.Proofs.YtjpedhcgokiojaaGreat
/- THE CELL 'sum', in the pinned program and in every row, IS THE sha256 OF THE DUMP (.gsa) THAT YtjpedhcgokiojaaGreatProg.lean LOADS. Nothing in Lean hashes anything: it is a label: what it is worth is what the hold of that sum in a sandbox is worth. -/
noncomputable def Tryz.pinned : Pinned := { name := "ytjpedhcgokiojaagreat", sum := "e69f72f36b82eb44649d342dad7535206acf621edddb35ca1cda18e7d0ec905f", checked := Tryz.checked }
namespace Rows
def none {H : Type} : Left H := { results := [], args := [] }

/-- 'hucksterlaw13.RawApplies': WHATEVER THE INPUT: true; the input reads as it did. -/
def rawAppliesSpec : ChangeSpec := { name := "rawApplies", fn := fun _ => fun
  | [d1, d2, d3] => { results := [.lit (.bool true)], args := [d1, d2, d3] }
  | _ => none }
def rawAppliesRow : OpenClaim := { program := "ytjpedhcgokiojaagreat", sum := "e69f72f36b82eb44649d342dad7535206acf621edddb35ca1cda18e7d0ec905f", func := "huckster/hucksterlaw13.RawApplies", spec := "rawApplies", inPlace := ["internal/bytealg.abigen_runtime_cmpstring", "slices.overlaps[huckster/api.Entry]", "slices.overlaps[huckster/api.Account]", "slices.overlaps[huckster/api.Cell]", "slices.overlaps[huckster/api.Note]"], unfollowed := true, recurses := true, apart := false }
def RawAppliesSaid : Prop := rawAppliesRow.holds Tryz.pinned (OpenSpec.ofChange rawAppliesSpec)

/-- ITS FALSE NEIGHBOUR: 'it returns false'. Refute it at one input. -/
def rawAppliesWrong : ChangeSpec := { name := "rawApplies", fn := fun _ => fun
  | [d1, d2, d3] => { results := [.lit (.bool false)], args := [d1, d2, d3] }
  | _ => none }
def RawAppliesWrongFalsely : Prop := rawAppliesRow.holds Tryz.pinned (OpenSpec.ofChange rawAppliesWrong)

/-- 'hucksterlaw13.RawFolds': WHATEVER THE INPUT: true; the input reads as it did. -/
def rawFoldsSpec : ChangeSpec := { name := "rawFolds", fn := fun _ => fun
  | [d1, d2, d3] => { results := [.lit (.bool true)], args := [d1, d2, d3] }
  | _ => none }
def rawFoldsRow : OpenClaim := { program := "ytjpedhcgokiojaagreat", sum := "e69f72f36b82eb44649d342dad7535206acf621edddb35ca1cda18e7d0ec905f", func := "huckster/hucksterlaw13.RawFolds", spec := "rawFolds", inPlace := ["internal/bytealg.abigen_runtime_cmpstring", "slices.overlaps[huckster/api.Entry]", "slices.overlaps[huckster/api.Account]", "slices.overlaps[huckster/api.Cell]", "slices.overlaps[huckster/api.Note]"], unfollowed := true, recurses := true, apart := false }
def RawFoldsSaid : Prop := rawFoldsRow.holds Tryz.pinned (OpenSpec.ofChange rawFoldsSpec)

/-- ITS FALSE NEIGHBOUR: 'it returns false'. Refute it at one input. -/
def rawFoldsWrong : ChangeSpec := { name := "rawFolds", fn := fun _ => fun
  | [d1, d2, d3] => { results := [.lit (.bool false)], args := [d1, d2, d3] }
  | _ => none }
def RawFoldsWrongFalsely : Prop := rawFoldsRow.holds Tryz.pinned (OpenSpec.ofChange rawFoldsWrong)

/-- 'hucksterlaw13.RawOne': WHATEVER THE INPUT: true; the input reads as it did. -/
def rawOneSpec : ChangeSpec := { name := "rawOne", fn := fun _ => fun
  | [d1, d2, d3] => { results := [.lit (.bool true)], args := [d1, d2, d3] }
  | _ => none }
def rawOneRow : OpenClaim := { program := "ytjpedhcgokiojaagreat", sum := "e69f72f36b82eb44649d342dad7535206acf621edddb35ca1cda18e7d0ec905f", func := "huckster/hucksterlaw13.RawOne", spec := "rawOne", inPlace := ["internal/bytealg.abigen_runtime_cmpstring", "slices.overlaps[huckster/api.Entry]", "slices.overlaps[huckster/api.Account]", "slices.overlaps[huckster/api.Cell]", "slices.overlaps[huckster/api.Note]"], unfollowed := true, recurses := true, apart := false }
def RawOneSaid : Prop := rawOneRow.holds Tryz.pinned (OpenSpec.ofChange rawOneSpec)

/-- ITS FALSE NEIGHBOUR: 'it returns false'. Refute it at one input. -/
def rawOneWrong : ChangeSpec := { name := "rawOne", fn := fun _ => fun
  | [d1, d2, d3] => { results := [.lit (.bool false)], args := [d1, d2, d3] }
  | _ => none }
def RawOneWrongFalsely : Prop := rawOneRow.holds Tryz.pinned (OpenSpec.ofChange rawOneWrong)

/-- 'hucksterlaw13.RawTells': WHATEVER THE INPUT: true; the input reads as it did. -/
def rawTellsSpec : ChangeSpec := { name := "rawTells", fn := fun _ => fun
  | [d1, d2, d3] => { results := [.lit (.bool true)], args := [d1, d2, d3] }
  | _ => none }
def rawTellsRow : OpenClaim := { program := "ytjpedhcgokiojaagreat", sum := "e69f72f36b82eb44649d342dad7535206acf621edddb35ca1cda18e7d0ec905f", func := "huckster/hucksterlaw13.RawTells", spec := "rawTells", inPlace := ["internal/bytealg.abigen_runtime_cmpstring", "slices.overlaps[huckster/api.Entry]", "slices.overlaps[huckster/api.Account]", "slices.overlaps[huckster/api.Cell]", "slices.overlaps[huckster/api.Note]"], unfollowed := true, recurses := true, apart := false }
def RawTellsSaid : Prop := rawTellsRow.holds Tryz.pinned (OpenSpec.ofChange rawTellsSpec)

/-- ITS FALSE NEIGHBOUR: 'it returns false'. Refute it at one input. -/
def rawTellsWrong : ChangeSpec := { name := "rawTells", fn := fun _ => fun
  | [d1, d2, d3] => { results := [.lit (.bool false)], args := [d1, d2, d3] }
  | _ => none }
def RawTellsWrongFalsely : Prop := rawTellsRow.holds Tryz.pinned (OpenSpec.ofChange rawTellsWrong)

/- THE SECOND FORM. 'bulk': how many values and letters a reading holds, each counted each time it is reached (what is shared counts as often as it is met; a slice's spare places count too). A statement '..UptoSaid' is the law's where the arguments, and the package variables that the reading takes, are together of bulk at most 1048576: NARROWER than '..Said'. Prove '..Said' where nothing that the law and all that it calls make is longer than what came in: it says more and counts as full. Else prove '..UptoSaid'. A law counts once. -/
mutual
def uptoBulk {H : Type} : DataW H → Nat
  | .lit (.string bytes) => bytes.length + 1
  | .lit _ => 1
  | .nil => 1
  | .ptr d => uptoBulk d + 1
  | .slice elems spare => uptoBulkAll elems + uptoBulkAll spare + 1
  | .agg parts => uptoBulkAll parts + 1
  | .iface _ d => uptoBulk d + 1
  | .map entries => uptoBulkEntries entries + 1
  | .held _ => 1
def uptoBulkAll {H : Type} : List (DataW H) → Nat
  | [] => 0
  | d :: r => uptoBulk d + uptoBulkAll r
def uptoBulkEntries {H : Type} : List (Lit × DataW H) → Nat
  | [] => 0
  | x :: r => uptoBulkEntry x + uptoBulkEntries r
def uptoBulkEntry {H : Type} : Lit × DataW H → Nat
  | (.string bytes, d) => bytes.length + uptoBulk d + 1
  | (_, d) => uptoBulk d + 1
 end
def uptoSmall : (H : Type) → List (DataW H) → Bool := fun _ ds => decide (uptoBulkAll ds ≤ 1048576)
def OpenSpec.upto (s : _root_.Go.ChangeSpec) : _root_.Go.OpenSpec := { _root_.Go.OpenSpec.ofChange s with cond := some uptoSmall }

/-- 'hucksterlaw13.RawApplies', WHERE WHAT IT READS IS OF BULK AT MOST 1048576: true; the input reads as it did. -/
def rawAppliesUptoRow : OpenClaim := { program := "ytjpedhcgokiojaagreat", sum := "e69f72f36b82eb44649d342dad7535206acf621edddb35ca1cda18e7d0ec905f", func := "huckster/hucksterlaw13.RawApplies", spec := "rawApplies", inPlace := ["internal/bytealg.abigen_runtime_cmpstring", "slices.overlaps[huckster/api.Entry]", "slices.overlaps[huckster/api.Account]", "slices.overlaps[huckster/api.Cell]", "slices.overlaps[huckster/api.Note]"], unfollowed := true, recurses := true, apart := false, narrowed := true }
def RawAppliesUptoSaid : Prop := rawAppliesUptoRow.holds Tryz.pinned (OpenSpec.upto rawAppliesSpec)

/-- 'hucksterlaw13.RawFolds', WHERE WHAT IT READS IS OF BULK AT MOST 1048576: true; the input reads as it did. -/
def rawFoldsUptoRow : OpenClaim := { program := "ytjpedhcgokiojaagreat", sum := "e69f72f36b82eb44649d342dad7535206acf621edddb35ca1cda18e7d0ec905f", func := "huckster/hucksterlaw13.RawFolds", spec := "rawFolds", inPlace := ["internal/bytealg.abigen_runtime_cmpstring", "slices.overlaps[huckster/api.Entry]", "slices.overlaps[huckster/api.Account]", "slices.overlaps[huckster/api.Cell]", "slices.overlaps[huckster/api.Note]"], unfollowed := true, recurses := true, apart := false, narrowed := true }
def RawFoldsUptoSaid : Prop := rawFoldsUptoRow.holds Tryz.pinned (OpenSpec.upto rawFoldsSpec)

/-- 'hucksterlaw13.RawOne', WHERE WHAT IT READS IS OF BULK AT MOST 1048576: true; the input reads as it did. -/
def rawOneUptoRow : OpenClaim := { program := "ytjpedhcgokiojaagreat", sum := "e69f72f36b82eb44649d342dad7535206acf621edddb35ca1cda18e7d0ec905f", func := "huckster/hucksterlaw13.RawOne", spec := "rawOne", inPlace := ["internal/bytealg.abigen_runtime_cmpstring", "slices.overlaps[huckster/api.Entry]", "slices.overlaps[huckster/api.Account]", "slices.overlaps[huckster/api.Cell]", "slices.overlaps[huckster/api.Note]"], unfollowed := true, recurses := true, apart := false, narrowed := true }
def RawOneUptoSaid : Prop := rawOneUptoRow.holds Tryz.pinned (OpenSpec.upto rawOneSpec)

/-- 'hucksterlaw13.RawTells', WHERE WHAT IT READS IS OF BULK AT MOST 1048576: true; the input reads as it did. -/
def rawTellsUptoRow : OpenClaim := { program := "ytjpedhcgokiojaagreat", sum := "e69f72f36b82eb44649d342dad7535206acf621edddb35ca1cda18e7d0ec905f", func := "huckster/hucksterlaw13.RawTells", spec := "rawTells", inPlace := ["internal/bytealg.abigen_runtime_cmpstring", "slices.overlaps[huckster/api.Entry]", "slices.overlaps[huckster/api.Account]", "slices.overlaps[huckster/api.Cell]", "slices.overlaps[huckster/api.Note]"], unfollowed := true, recurses := true, apart := false, narrowed := true }
def RawTellsUptoSaid : Prop := rawTellsUptoRow.holds Tryz.pinned (OpenSpec.upto rawTellsSpec)

end Rows
end Go.Proofs.YtjpedhcgokiojaaGreat
