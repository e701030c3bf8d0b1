/-
  No cell of these rows narrows 'for every input' (looked for: loops, veiled, ifaces, maps, wideKeys, modest, calm, conditions, laid).
  DERIVED. THE GIVEN ROWS OF THIS SEAT. 3 by the template 'for every input the law returns true; each argument reads behind the call as it read before'; 0 by the template 'total and deterministic' (their statements: YtmhkagfncnnfdaaTotals.lean).
  GIVEN WITH THE SEED: the statements are not yours to turn. If you find one false, say at which input.
  Laid BY PROGRAM, IN A SANDBOX (cutbox-rows.mjs): the forced cells as the released guide's own fill.sh prints them over the translation a915a62f2170cf76… (all of the seat's roots in one cut). By AI agents, Wed Nov 11 2026. No macro, syntax, notation, axiom, sorry.
-/
import Derived.Test.YtmhkagfncnnfdaaChecked
import GoSem.Claim
import GoSem.ClaimJoined
import GoSem.ClaimMapViews
import Derived.JoinedTies
import Derived.KernelRfl
namespace Go.Proofs.Ytmhkagfncnnfdaa
/- THE CELL 'sum', in the pinned program and in every row, IS THE sha256 OF THE DUMP (.gsa) THAT YtmhkagfncnnfdaaProg.lean LOADS. Nothing in Lean hashes anything: it is a label: what it is worth is what the hold of that sum in a sandbox is worth. -/
noncomputable def Try.pinned : Pinned := { name := "ytmhkagfncnnfdaa", sum := "a915a62f2170cf76511929b0f427dd3862ee32352c33bf858f09254029baa475", checked := Try.checked }
namespace Rows
def none {H : Type} : Left H := { results := [], args := [] }

/-- 'hucksterlaw19.EvalHolds': WHATEVER THE INPUT: true; the input reads as it did. -/
def evalHoldsSpec : ChangeSpec := { name := "evalHolds", fn := fun _ => fun
  | [d1, d2, d3] => { results := [.lit (.bool true)], args := [d1, d2, d3] }
  | _ => none }
def evalHoldsRow : OpenClaim := { program := "ytmhkagfncnnfdaa", sum := "a915a62f2170cf76511929b0f427dd3862ee32352c33bf858f09254029baa475", func := "huckster/hucksterlaw19.EvalHolds", spec := "evalHolds", unfollowed := true, recurses := true, plainKeys := false, apart := false }
def EvalHoldsSaid : Prop := evalHoldsRow.holds Try.pinned (OpenSpec.ofChange evalHoldsSpec)

/-- ITS FALSE NEIGHBOUR: 'it returns false'. Refute it at one input. -/
def evalHoldsWrong : ChangeSpec := { name := "evalHolds", fn := fun _ => fun
  | [d1, d2, d3] => { results := [.lit (.bool false)], args := [d1, d2, d3] }
  | _ => none }
def EvalHoldsWrongFalsely : Prop := evalHoldsRow.holds Try.pinned (OpenSpec.ofChange evalHoldsWrong)

/-- 'hucksterlaw19.EvalOther': WHATEVER THE INPUT: true; the input reads as it did. -/
def evalOtherSpec : ChangeSpec := { name := "evalOther", fn := fun _ => fun
  | [d1, d2, d3] => { results := [.lit (.bool true)], args := [d1, d2, d3] }
  | _ => none }
def evalOtherRow : OpenClaim := { program := "ytmhkagfncnnfdaa", sum := "a915a62f2170cf76511929b0f427dd3862ee32352c33bf858f09254029baa475", func := "huckster/hucksterlaw19.EvalOther", spec := "evalOther", inPlace := ["slices.overlaps[string]", "internal/bytealg.abigen_runtime_cmpstring", "slices.overlaps[huckster/api.Cell]"], unfollowed := true, recurses := true, plainKeys := false, apart := false }
def EvalOtherSaid : Prop := evalOtherRow.holds Try.pinned (OpenSpec.ofChange evalOtherSpec)

/-- ITS FALSE NEIGHBOUR: 'it returns false'. Refute it at one input. -/
def evalOtherWrong : ChangeSpec := { name := "evalOther", fn := fun _ => fun
  | [d1, d2, d3] => { results := [.lit (.bool false)], args := [d1, d2, d3] }
  | _ => none }
def EvalOtherWrongFalsely : Prop := evalOtherRow.holds Try.pinned (OpenSpec.ofChange evalOtherWrong)

/-- 'hucksterlaw18.NormAgain': WHATEVER THE INPUT: true; the input reads as it did. -/
def normAgainSpec : ChangeSpec := { name := "normAgain", fn := fun _ => fun
  | [d1, d2] => { results := [.lit (.bool true)], args := [d1, d2] }
  | _ => none }
def normAgainRow : OpenClaim := { program := "ytmhkagfncnnfdaa", sum := "a915a62f2170cf76511929b0f427dd3862ee32352c33bf858f09254029baa475", func := "huckster/hucksterlaw18.NormAgain", spec := "normAgain", unfollowed := true, recurses := true, plainKeys := false, apart := false }
def NormAgainSaid : Prop := normAgainRow.holds Try.pinned (OpenSpec.ofChange normAgainSpec)

/-- ITS FALSE NEIGHBOUR: 'it returns false'. Refute it at one input. -/
def normAgainWrong : ChangeSpec := { name := "normAgain", fn := fun _ => fun
  | [d1, d2] => { results := [.lit (.bool false)], args := [d1, d2] }
  | _ => none }
def NormAgainWrongFalsely : Prop := normAgainRow.holds Try.pinned (OpenSpec.ofChange normAgainWrong)

/- THE SECOND FORM. 'bulk': how many values and letters a reading holds, each counted each time it is reached (what is shared counts as often as it is met; a slice's spare places count too). A statement '..UptoSaid' is the law's where the arguments, and the package variables that the reading takes, are together of bulk at most 1048576: NARROWER than '..Said'. Prove '..Said' where nothing that the law and all that it calls make is longer than what came in: it says more and counts as full. Else prove '..UptoSaid'. A law counts once. -/
mutual
def uptoBulk {H : Type} : DataW H → Nat
  | .lit (.string bytes) => bytes.length + 1
  | .lit _ => 1
  | .nil => 1
  | .ptr d => uptoBulk d + 1
  | .slice elems spare => uptoBulkAll elems + uptoBulkAll spare + 1
  | .agg parts => uptoBulkAll parts + 1
  | .iface _ d => uptoBulk d + 1
  | .map entries => uptoBulkEntries entries + 1
  | .held _ => 1
def uptoBulkAll {H : Type} : List (DataW H) → Nat
  | [] => 0
  | d :: r => uptoBulk d + uptoBulkAll r
def uptoBulkEntries {H : Type} : List (Lit × DataW H) → Nat
  | [] => 0
  | x :: r => uptoBulkEntry x + uptoBulkEntries r
def uptoBulkEntry {H : Type} : Lit × DataW H → Nat
  | (.string bytes, d) => bytes.length + uptoBulk d + 1
  | (_, d) => uptoBulk d + 1
 end
def uptoSmall : (H : Type) → List (DataW H) → Bool := fun _ ds => decide (uptoBulkAll ds ≤ 1048576)
def OpenSpec.upto (s : _root_.Go.ChangeSpec) : _root_.Go.OpenSpec := { _root_.Go.OpenSpec.ofChange s with cond := some uptoSmall }

/-- 'hucksterlaw19.EvalHolds', WHERE WHAT IT READS IS OF BULK AT MOST 1048576: true; the input reads as it did. -/
def evalHoldsUptoRow : OpenClaim := { program := "ytmhkagfncnnfdaa", sum := "a915a62f2170cf76511929b0f427dd3862ee32352c33bf858f09254029baa475", func := "huckster/hucksterlaw19.EvalHolds", spec := "evalHolds", unfollowed := true, recurses := true, plainKeys := false, apart := false, narrowed := true }
def EvalHoldsUptoSaid : Prop := evalHoldsUptoRow.holds Try.pinned (OpenSpec.upto evalHoldsSpec)

/-- 'hucksterlaw19.EvalOther', WHERE WHAT IT READS IS OF BULK AT MOST 1048576: true; the input reads as it did. -/
def evalOtherUptoRow : OpenClaim := { program := "ytmhkagfncnnfdaa", sum := "a915a62f2170cf76511929b0f427dd3862ee32352c33bf858f09254029baa475", func := "huckster/hucksterlaw19.EvalOther", spec := "evalOther", inPlace := ["slices.overlaps[string]", "internal/bytealg.abigen_runtime_cmpstring", "slices.overlaps[huckster/api.Cell]"], unfollowed := true, recurses := true, plainKeys := false, apart := false, narrowed := true }
def EvalOtherUptoSaid : Prop := evalOtherUptoRow.holds Try.pinned (OpenSpec.upto evalOtherSpec)

/-- 'hucksterlaw18.NormAgain', WHERE WHAT IT READS IS OF BULK AT MOST 1048576: true; the input reads as it did. -/
def normAgainUptoRow : OpenClaim := { program := "ytmhkagfncnnfdaa", sum := "a915a62f2170cf76511929b0f427dd3862ee32352c33bf858f09254029baa475", func := "huckster/hucksterlaw18.NormAgain", spec := "normAgain", unfollowed := true, recurses := true, plainKeys := false, apart := false, narrowed := true }
def NormAgainUptoSaid : Prop := normAgainUptoRow.holds Try.pinned (OpenSpec.upto normAgainSpec)

end Rows
end Go.Proofs.Ytmhkagfncnnfdaa
