/-
  No cell of these rows narrows 'for every input' (looked for: loops, veiled, ifaces, maps, wideKeys, modest, calm, conditions, laid).
  DERIVED. THE GIVEN ROWS OF THIS SEAT. 8 by the template 'for every input the law returns true; each argument reads behind the call as it read before'; 0 by the template 'total and deterministic' (their statements: YtkjbnpecjildiaaTotals.lean).
  GIVEN WITH THE SEED: the statements are not yours to turn. If you find one false, say at which input.
  Laid BY PROGRAM, IN A SANDBOX (cutbox-rows.mjs): the forced cells as the released guide's own fill.sh prints them over the translation 69243a03c9727a2c… (all of the seat's roots in one cut). By AI agents, Wed Nov 11 2026. No macro, syntax, notation, axiom, sorry.
-/
import Derived.Test.YtkjbnpecjildiaaChecked
import GoSem.Claim
import GoSem.ClaimJoined
import GoSem.ClaimMapViews
import Derived.JoinedTies
import Derived.KernelRfl
namespace Go.Proofs.Ytkjbnpecjildiaa
/- THE CELL 'sum', in the pinned program and in every row, IS THE sha256 OF THE DUMP (.gsa) THAT YtkjbnpecjildiaaProg.lean LOADS. Nothing in Lean hashes anything: it is a label: what it is worth is what the hold of that sum in a sandbox is worth. -/
noncomputable def Try.pinned : Pinned := { name := "ytkjbnpecjildiaa", sum := "69243a03c9727a2cb8be7565e73dee09bb78da50dde3c7119803ee8f6e3d631e", checked := Try.checked }
namespace Rows
def none {H : Type} : Left H := { results := [], args := [] }

/-- 'hucksterlaw09.RwsetTurns': WHATEVER THE INPUT: true; the input reads as it did. -/
def rwsetTurnsSpec : ChangeSpec := { name := "rwsetTurns", fn := fun _ => fun
  | [d1, d2] => { results := [.lit (.bool true)], args := [d1, d2] }
  | _ => none }
def rwsetTurnsRow : OpenClaim := { program := "ytkjbnpecjildiaa", sum := "69243a03c9727a2cb8be7565e73dee09bb78da50dde3c7119803ee8f6e3d631e", func := "huckster/hucksterlaw09.RwsetTurns", spec := "rwsetTurns", inPlace := ["internal/bytealg.abigen_runtime_cmpstring", "slices.overlaps[huckster/api.Entry]"], unfollowed := true, recurses := true, apart := false }
def RwsetTurnsSaid : Prop := rwsetTurnsRow.holds Try.pinned (OpenSpec.ofChange rwsetTurnsSpec)

/-- ITS FALSE NEIGHBOUR: 'it returns false'. Refute it at one input. -/
def rwsetTurnsWrong : ChangeSpec := { name := "rwsetTurns", fn := fun _ => fun
  | [d1, d2] => { results := [.lit (.bool false)], args := [d1, d2] }
  | _ => none }
def RwsetTurnsWrongFalsely : Prop := rwsetTurnsRow.holds Try.pinned (OpenSpec.ofChange rwsetTurnsWrong)

/-- 'hucksterlaw09.RwsetDrops': WHATEVER THE INPUT: true; the input reads as it did. -/
def rwsetDropsSpec : ChangeSpec := { name := "rwsetDrops", fn := fun _ => fun
  | [d1, d2, d3] => { results := [.lit (.bool true)], args := [d1, d2, d3] }
  | _ => none }
def rwsetDropsRow : OpenClaim := { program := "ytkjbnpecjildiaa", sum := "69243a03c9727a2cb8be7565e73dee09bb78da50dde3c7119803ee8f6e3d631e", func := "huckster/hucksterlaw09.RwsetDrops", spec := "rwsetDrops", inPlace := ["internal/bytealg.abigen_runtime_cmpstring", "slices.overlaps[huckster/api.Entry]"], unfollowed := true, recurses := true, apart := false }
def RwsetDropsSaid : Prop := rwsetDropsRow.holds Try.pinned (OpenSpec.ofChange rwsetDropsSpec)

/-- ITS FALSE NEIGHBOUR: 'it returns false'. Refute it at one input. -/
def rwsetDropsWrong : ChangeSpec := { name := "rwsetDrops", fn := fun _ => fun
  | [d1, d2, d3] => { results := [.lit (.bool false)], args := [d1, d2, d3] }
  | _ => none }
def RwsetDropsWrongFalsely : Prop := rwsetDropsRow.holds Try.pinned (OpenSpec.ofChange rwsetDropsWrong)

/-- 'hucksterlaw08.AwsetTurns': WHATEVER THE INPUT: true; the input reads as it did. -/
def awsetTurnsSpec : ChangeSpec := { name := "awsetTurns", fn := fun _ => fun
  | [d1, d2] => { results := [.lit (.bool true)], args := [d1, d2] }
  | _ => none }
def awsetTurnsRow : OpenClaim := { program := "ytkjbnpecjildiaa", sum := "69243a03c9727a2cb8be7565e73dee09bb78da50dde3c7119803ee8f6e3d631e", func := "huckster/hucksterlaw08.AwsetTurns", spec := "awsetTurns", inPlace := ["internal/bytealg.abigen_runtime_cmpstring", "slices.overlaps[huckster/api.Entry]"], unfollowed := true, recurses := true, apart := false }
def AwsetTurnsSaid : Prop := awsetTurnsRow.holds Try.pinned (OpenSpec.ofChange awsetTurnsSpec)

/-- ITS FALSE NEIGHBOUR: 'it returns false'. Refute it at one input. -/
def awsetTurnsWrong : ChangeSpec := { name := "awsetTurns", fn := fun _ => fun
  | [d1, d2] => { results := [.lit (.bool false)], args := [d1, d2] }
  | _ => none }
def AwsetTurnsWrongFalsely : Prop := awsetTurnsRow.holds Try.pinned (OpenSpec.ofChange awsetTurnsWrong)

/-- 'hucksterlaw08.AwsetFolds': WHATEVER THE INPUT: true; the input reads as it did. -/
def awsetFoldsSpec : ChangeSpec := { name := "awsetFolds", fn := fun _ => fun
  | [d1, d2, d3] => { results := [.lit (.bool true)], args := [d1, d2, d3] }
  | _ => none }
def awsetFoldsRow : OpenClaim := { program := "ytkjbnpecjildiaa", sum := "69243a03c9727a2cb8be7565e73dee09bb78da50dde3c7119803ee8f6e3d631e", func := "huckster/hucksterlaw08.AwsetFolds", spec := "awsetFolds", inPlace := ["internal/bytealg.abigen_runtime_cmpstring", "slices.overlaps[huckster/api.Entry]"], unfollowed := true, recurses := true, apart := false }
def AwsetFoldsSaid : Prop := awsetFoldsRow.holds Try.pinned (OpenSpec.ofChange awsetFoldsSpec)

/-- ITS FALSE NEIGHBOUR: 'it returns false'. Refute it at one input. -/
def awsetFoldsWrong : ChangeSpec := { name := "awsetFolds", fn := fun _ => fun
  | [d1, d2, d3] => { results := [.lit (.bool false)], args := [d1, d2, d3] }
  | _ => none }
def AwsetFoldsWrongFalsely : Prop := awsetFoldsRow.holds Try.pinned (OpenSpec.ofChange awsetFoldsWrong)

/-- 'hucksterlaw08.AwsetDrops': WHATEVER THE INPUT: true; the input reads as it did. -/
def awsetDropsSpec : ChangeSpec := { name := "awsetDrops", fn := fun _ => fun
  | [d1, d2, d3] => { results := [.lit (.bool true)], args := [d1, d2, d3] }
  | _ => none }
def awsetDropsRow : OpenClaim := { program := "ytkjbnpecjildiaa", sum := "69243a03c9727a2cb8be7565e73dee09bb78da50dde3c7119803ee8f6e3d631e", func := "huckster/hucksterlaw08.AwsetDrops", spec := "awsetDrops", inPlace := ["internal/bytealg.abigen_runtime_cmpstring", "slices.overlaps[huckster/api.Entry]"], unfollowed := true, recurses := true, apart := false }
def AwsetDropsSaid : Prop := awsetDropsRow.holds Try.pinned (OpenSpec.ofChange awsetDropsSpec)

/-- ITS FALSE NEIGHBOUR: 'it returns false'. Refute it at one input. -/
def awsetDropsWrong : ChangeSpec := { name := "awsetDrops", fn := fun _ => fun
  | [d1, d2, d3] => { results := [.lit (.bool false)], args := [d1, d2, d3] }
  | _ => none }
def AwsetDropsWrongFalsely : Prop := awsetDropsRow.holds Try.pinned (OpenSpec.ofChange awsetDropsWrong)

/-- 'hucksterlaw09.RwsetFolds': WHATEVER THE INPUT: true; the input reads as it did. -/
def rwsetFoldsSpec : ChangeSpec := { name := "rwsetFolds", fn := fun _ => fun
  | [d1, d2, d3] => { results := [.lit (.bool true)], args := [d1, d2, d3] }
  | _ => none }
def rwsetFoldsRow : OpenClaim := { program := "ytkjbnpecjildiaa", sum := "69243a03c9727a2cb8be7565e73dee09bb78da50dde3c7119803ee8f6e3d631e", func := "huckster/hucksterlaw09.RwsetFolds", spec := "rwsetFolds", inPlace := ["internal/bytealg.abigen_runtime_cmpstring", "slices.overlaps[huckster/api.Entry]"], unfollowed := true, recurses := true, apart := false }
def RwsetFoldsSaid : Prop := rwsetFoldsRow.holds Try.pinned (OpenSpec.ofChange rwsetFoldsSpec)

/-- ITS FALSE NEIGHBOUR: 'it returns false'. Refute it at one input. -/
def rwsetFoldsWrong : ChangeSpec := { name := "rwsetFolds", fn := fun _ => fun
  | [d1, d2, d3] => { results := [.lit (.bool false)], args := [d1, d2, d3] }
  | _ => none }
def RwsetFoldsWrongFalsely : Prop := rwsetFoldsRow.holds Try.pinned (OpenSpec.ofChange rwsetFoldsWrong)

/-- 'hucksterlaw09.RwsetTells': WHATEVER THE INPUT: true; the input reads as it did. -/
def rwsetTellsSpec : ChangeSpec := { name := "rwsetTells", fn := fun _ => fun
  | [d1, d2, d3] => { results := [.lit (.bool true)], args := [d1, d2, d3] }
  | _ => none }
def rwsetTellsRow : OpenClaim := { program := "ytkjbnpecjildiaa", sum := "69243a03c9727a2cb8be7565e73dee09bb78da50dde3c7119803ee8f6e3d631e", func := "huckster/hucksterlaw09.RwsetTells", spec := "rwsetTells", inPlace := ["internal/bytealg.abigen_runtime_cmpstring", "slices.overlaps[huckster/api.Entry]"], unfollowed := true, recurses := true, apart := false }
def RwsetTellsSaid : Prop := rwsetTellsRow.holds Try.pinned (OpenSpec.ofChange rwsetTellsSpec)

/-- ITS FALSE NEIGHBOUR: 'it returns false'. Refute it at one input. -/
def rwsetTellsWrong : ChangeSpec := { name := "rwsetTells", fn := fun _ => fun
  | [d1, d2, d3] => { results := [.lit (.bool false)], args := [d1, d2, d3] }
  | _ => none }
def RwsetTellsWrongFalsely : Prop := rwsetTellsRow.holds Try.pinned (OpenSpec.ofChange rwsetTellsWrong)

/-- 'hucksterlaw08.AwsetTells': WHATEVER THE INPUT: true; the input reads as it did. -/
def awsetTellsSpec : ChangeSpec := { name := "awsetTells", fn := fun _ => fun
  | [d1, d2, d3] => { results := [.lit (.bool true)], args := [d1, d2, d3] }
  | _ => none }
def awsetTellsRow : OpenClaim := { program := "ytkjbnpecjildiaa", sum := "69243a03c9727a2cb8be7565e73dee09bb78da50dde3c7119803ee8f6e3d631e", func := "huckster/hucksterlaw08.AwsetTells", spec := "awsetTells", inPlace := ["internal/bytealg.abigen_runtime_cmpstring", "slices.overlaps[huckster/api.Entry]"], unfollowed := true, recurses := true, apart := false }
def AwsetTellsSaid : Prop := awsetTellsRow.holds Try.pinned (OpenSpec.ofChange awsetTellsSpec)

/-- ITS FALSE NEIGHBOUR: 'it returns false'. Refute it at one input. -/
def awsetTellsWrong : ChangeSpec := { name := "awsetTells", fn := fun _ => fun
  | [d1, d2, d3] => { results := [.lit (.bool false)], args := [d1, d2, d3] }
  | _ => none }
def AwsetTellsWrongFalsely : Prop := awsetTellsRow.holds Try.pinned (OpenSpec.ofChange awsetTellsWrong)

/- THE SECOND FORM. 'bulk': how many values and letters a reading holds, each counted each time it is reached (what is shared counts as often as it is met; a slice's spare places count too). A statement '..UptoSaid' is the law's where the arguments, and the package variables that the reading takes, are together of bulk at most 1048576: NARROWER than '..Said'. Prove '..Said' where nothing that the law and all that it calls make is longer than what came in: it says more and counts as full. Else prove '..UptoSaid'. A law counts once. -/
mutual
def uptoBulk {H : Type} : DataW H → Nat
  | .lit (.string bytes) => bytes.length + 1
  | .lit _ => 1
  | .nil => 1
  | .ptr d => uptoBulk d + 1
  | .slice elems spare => uptoBulkAll elems + uptoBulkAll spare + 1
  | .agg parts => uptoBulkAll parts + 1
  | .iface _ d => uptoBulk d + 1
  | .map entries => uptoBulkEntries entries + 1
  | .held _ => 1
def uptoBulkAll {H : Type} : List (DataW H) → Nat
  | [] => 0
  | d :: r => uptoBulk d + uptoBulkAll r
def uptoBulkEntries {H : Type} : List (Lit × DataW H) → Nat
  | [] => 0
  | x :: r => uptoBulkEntry x + uptoBulkEntries r
def uptoBulkEntry {H : Type} : Lit × DataW H → Nat
  | (.string bytes, d) => bytes.length + uptoBulk d + 1
  | (_, d) => uptoBulk d + 1
 end
def uptoSmall : (H : Type) → List (DataW H) → Bool := fun _ ds => decide (uptoBulkAll ds ≤ 1048576)
def OpenSpec.upto (s : _root_.Go.ChangeSpec) : _root_.Go.OpenSpec := { _root_.Go.OpenSpec.ofChange s with cond := some uptoSmall }

/-- 'hucksterlaw09.RwsetTurns', WHERE WHAT IT READS IS OF BULK AT MOST 1048576: true; the input reads as it did. -/
def rwsetTurnsUptoRow : OpenClaim := { program := "ytkjbnpecjildiaa", sum := "69243a03c9727a2cb8be7565e73dee09bb78da50dde3c7119803ee8f6e3d631e", func := "huckster/hucksterlaw09.RwsetTurns", spec := "rwsetTurns", inPlace := ["internal/bytealg.abigen_runtime_cmpstring", "slices.overlaps[huckster/api.Entry]"], unfollowed := true, recurses := true, apart := false, narrowed := true }
def RwsetTurnsUptoSaid : Prop := rwsetTurnsUptoRow.holds Try.pinned (OpenSpec.upto rwsetTurnsSpec)

/-- 'hucksterlaw09.RwsetDrops', WHERE WHAT IT READS IS OF BULK AT MOST 1048576: true; the input reads as it did. -/
def rwsetDropsUptoRow : OpenClaim := { program := "ytkjbnpecjildiaa", sum := "69243a03c9727a2cb8be7565e73dee09bb78da50dde3c7119803ee8f6e3d631e", func := "huckster/hucksterlaw09.RwsetDrops", spec := "rwsetDrops", inPlace := ["internal/bytealg.abigen_runtime_cmpstring", "slices.overlaps[huckster/api.Entry]"], unfollowed := true, recurses := true, apart := false, narrowed := true }
def RwsetDropsUptoSaid : Prop := rwsetDropsUptoRow.holds Try.pinned (OpenSpec.upto rwsetDropsSpec)

/-- 'hucksterlaw08.AwsetTurns', WHERE WHAT IT READS IS OF BULK AT MOST 1048576: true; the input reads as it did. -/
def awsetTurnsUptoRow : OpenClaim := { program := "ytkjbnpecjildiaa", sum := "69243a03c9727a2cb8be7565e73dee09bb78da50dde3c7119803ee8f6e3d631e", func := "huckster/hucksterlaw08.AwsetTurns", spec := "awsetTurns", inPlace := ["internal/bytealg.abigen_runtime_cmpstring", "slices.overlaps[huckster/api.Entry]"], unfollowed := true, recurses := true, apart := false, narrowed := true }
def AwsetTurnsUptoSaid : Prop := awsetTurnsUptoRow.holds Try.pinned (OpenSpec.upto awsetTurnsSpec)

/-- 'hucksterlaw08.AwsetFolds', WHERE WHAT IT READS IS OF BULK AT MOST 1048576: true; the input reads as it did. -/
def awsetFoldsUptoRow : OpenClaim := { program := "ytkjbnpecjildiaa", sum := "69243a03c9727a2cb8be7565e73dee09bb78da50dde3c7119803ee8f6e3d631e", func := "huckster/hucksterlaw08.AwsetFolds", spec := "awsetFolds", inPlace := ["internal/bytealg.abigen_runtime_cmpstring", "slices.overlaps[huckster/api.Entry]"], unfollowed := true, recurses := true, apart := false, narrowed := true }
def AwsetFoldsUptoSaid : Prop := awsetFoldsUptoRow.holds Try.pinned (OpenSpec.upto awsetFoldsSpec)

/-- 'hucksterlaw08.AwsetDrops', WHERE WHAT IT READS IS OF BULK AT MOST 1048576: true; the input reads as it did. -/
def awsetDropsUptoRow : OpenClaim := { program := "ytkjbnpecjildiaa", sum := "69243a03c9727a2cb8be7565e73dee09bb78da50dde3c7119803ee8f6e3d631e", func := "huckster/hucksterlaw08.AwsetDrops", spec := "awsetDrops", inPlace := ["internal/bytealg.abigen_runtime_cmpstring", "slices.overlaps[huckster/api.Entry]"], unfollowed := true, recurses := true, apart := false, narrowed := true }
def AwsetDropsUptoSaid : Prop := awsetDropsUptoRow.holds Try.pinned (OpenSpec.upto awsetDropsSpec)

/-- 'hucksterlaw09.RwsetFolds', WHERE WHAT IT READS IS OF BULK AT MOST 1048576: true; the input reads as it did. -/
def rwsetFoldsUptoRow : OpenClaim := { program := "ytkjbnpecjildiaa", sum := "69243a03c9727a2cb8be7565e73dee09bb78da50dde3c7119803ee8f6e3d631e", func := "huckster/hucksterlaw09.RwsetFolds", spec := "rwsetFolds", inPlace := ["internal/bytealg.abigen_runtime_cmpstring", "slices.overlaps[huckster/api.Entry]"], unfollowed := true, recurses := true, apart := false, narrowed := true }
def RwsetFoldsUptoSaid : Prop := rwsetFoldsUptoRow.holds Try.pinned (OpenSpec.upto rwsetFoldsSpec)

/-- 'hucksterlaw09.RwsetTells', WHERE WHAT IT READS IS OF BULK AT MOST 1048576: true; the input reads as it did. -/
def rwsetTellsUptoRow : OpenClaim := { program := "ytkjbnpecjildiaa", sum := "69243a03c9727a2cb8be7565e73dee09bb78da50dde3c7119803ee8f6e3d631e", func := "huckster/hucksterlaw09.RwsetTells", spec := "rwsetTells", inPlace := ["internal/bytealg.abigen_runtime_cmpstring", "slices.overlaps[huckster/api.Entry]"], unfollowed := true, recurses := true, apart := false, narrowed := true }
def RwsetTellsUptoSaid : Prop := rwsetTellsUptoRow.holds Try.pinned (OpenSpec.upto rwsetTellsSpec)

/-- 'hucksterlaw08.AwsetTells', WHERE WHAT IT READS IS OF BULK AT MOST 1048576: true; the input reads as it did. -/
def awsetTellsUptoRow : OpenClaim := { program := "ytkjbnpecjildiaa", sum := "69243a03c9727a2cb8be7565e73dee09bb78da50dde3c7119803ee8f6e3d631e", func := "huckster/hucksterlaw08.AwsetTells", spec := "awsetTells", inPlace := ["internal/bytealg.abigen_runtime_cmpstring", "slices.overlaps[huckster/api.Entry]"], unfollowed := true, recurses := true, apart := false, narrowed := true }
def AwsetTellsUptoSaid : Prop := awsetTellsUptoRow.holds Try.pinned (OpenSpec.upto awsetTellsSpec)

end Rows
end Go.Proofs.Ytkjbnpecjildiaa
