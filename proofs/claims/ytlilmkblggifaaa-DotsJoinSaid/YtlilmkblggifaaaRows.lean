/-
  No cell of these rows narrows 'for every input' (looked for: loops, veiled, ifaces, maps, wideKeys, modest, calm, conditions, laid).
  DERIVED. THE GIVEN ROWS OF THIS SEAT. 8 by the template 'for every input the law returns true; each argument reads behind the call as it read before'; 0 by the template 'total and deterministic' (their statements: YtlilmkblggifaaaTotals.lean).
  GIVEN WITH THE SEED: the statements are not yours to turn. If you find one false, say at which input.
  Laid BY PROGRAM, IN A SANDBOX (cutbox-rows.mjs): the forced cells as the released guide's own fill.sh prints them over the translation 364aeb3f672af679… (all of the seat's roots in one cut). By AI agents, Wed Nov 11 2026. No macro, syntax, notation, axiom, sorry.
-/
import Derived.Test.YtlilmkblggifaaaChecked
import GoSem.Claim
import GoSem.ClaimJoined
import GoSem.ClaimMapViews
import Derived.JoinedTies
import Derived.KernelRfl
namespace Go.Proofs.Ytlilmkblggifaaa
/- THE CELL 'sum', in the pinned program and in every row, IS THE sha256 OF THE DUMP (.gsa) THAT YtlilmkblggifaaaProg.lean LOADS. Nothing in Lean hashes anything: it is a label: what it is worth is what the hold of that sum in a sandbox is worth. -/
noncomputable def Try.pinned : Pinned := { name := "ytlilmkblggifaaa", sum := "364aeb3f672af6791f7120f3e354ef0e21ec00f4bae634473279a7fcbf88c3d4", checked := Try.checked }
namespace Rows
def none {H : Type} : Left H := { results := [], args := [] }

/-- 'hucksterlaw27.PostActs': WHATEVER THE INPUT: true; the input reads as it did. -/
def postActsSpec : ChangeSpec := { name := "postActs", fn := fun _ => fun
  | [d1, d2] => { results := [.lit (.bool true)], args := [d1, d2] }
  | _ => none }
def postActsRow : OpenClaim := { program := "ytlilmkblggifaaa", sum := "364aeb3f672af6791f7120f3e354ef0e21ec00f4bae634473279a7fcbf88c3d4", func := "huckster/hucksterlaw27.PostActs", spec := "postActs", plainKeys := false, apart := false }
def PostActsSaid : Prop := postActsRow.holds Try.pinned (OpenSpec.ofChange postActsSpec)

/-- ITS FALSE NEIGHBOUR: 'it returns false'. Refute it at one input. -/
def postActsWrong : ChangeSpec := { name := "postActs", fn := fun _ => fun
  | [d1, d2] => { results := [.lit (.bool false)], args := [d1, d2] }
  | _ => none }
def PostActsWrongFalsely : Prop := postActsRow.holds Try.pinned (OpenSpec.ofChange postActsWrong)

/-- 'hucksterlaw27.PostFull': WHATEVER THE INPUT: true; the input reads as it did. -/
def postFullSpec : ChangeSpec := { name := "postFull", fn := fun _ => fun
  | [d] => { results := [.lit (.bool true)], args := [d] }
  | _ => none }
def postFullRow : OpenClaim := { program := "ytlilmkblggifaaa", sum := "364aeb3f672af6791f7120f3e354ef0e21ec00f4bae634473279a7fcbf88c3d4", func := "huckster/hucksterlaw27.PostFull", spec := "postFull", plainKeys := false, apart := false }
def PostFullSaid : Prop := postFullRow.holds Try.pinned (OpenSpec.ofChange postFullSpec)

/-- ITS FALSE NEIGHBOUR: 'it returns false'. Refute it at one input. -/
def postFullWrong : ChangeSpec := { name := "postFull", fn := fun _ => fun
  | [d] => { results := [.lit (.bool false)], args := [d] }
  | _ => none }
def PostFullWrongFalsely : Prop := postFullRow.holds Try.pinned (OpenSpec.ofChange postFullWrong)

/-- 'hucksterlaw19.EvalHolds': WHATEVER THE INPUT: true; the input reads as it did. -/
def evalHoldsSpec : ChangeSpec := { name := "evalHolds", fn := fun _ => fun
  | [d1, d2, d3] => { results := [.lit (.bool true)], args := [d1, d2, d3] }
  | _ => none }
def evalHoldsRow : OpenClaim := { program := "ytlilmkblggifaaa", sum := "364aeb3f672af6791f7120f3e354ef0e21ec00f4bae634473279a7fcbf88c3d4", func := "huckster/hucksterlaw19.EvalHolds", spec := "evalHolds", unfollowed := true, recurses := true, plainKeys := false, apart := false }
def EvalHoldsSaid : Prop := evalHoldsRow.holds Try.pinned (OpenSpec.ofChange evalHoldsSpec)

/-- ITS FALSE NEIGHBOUR: 'it returns false'. Refute it at one input. -/
def evalHoldsWrong : ChangeSpec := { name := "evalHolds", fn := fun _ => fun
  | [d1, d2, d3] => { results := [.lit (.bool false)], args := [d1, d2, d3] }
  | _ => none }
def EvalHoldsWrongFalsely : Prop := evalHoldsRow.holds Try.pinned (OpenSpec.ofChange evalHoldsWrong)

/-- 'hucksterlaw19.EvalOther': WHATEVER THE INPUT: true; the input reads as it did. -/
def evalOtherSpec : ChangeSpec := { name := "evalOther", fn := fun _ => fun
  | [d1, d2, d3] => { results := [.lit (.bool true)], args := [d1, d2, d3] }
  | _ => none }
def evalOtherRow : OpenClaim := { program := "ytlilmkblggifaaa", sum := "364aeb3f672af6791f7120f3e354ef0e21ec00f4bae634473279a7fcbf88c3d4", func := "huckster/hucksterlaw19.EvalOther", spec := "evalOther", inPlace := ["slices.overlaps[string]", "internal/bytealg.abigen_runtime_cmpstring", "slices.overlaps[huckster/api.Cell]"], unfollowed := true, recurses := true, plainKeys := false, apart := false }
def EvalOtherSaid : Prop := evalOtherRow.holds Try.pinned (OpenSpec.ofChange evalOtherSpec)

/-- ITS FALSE NEIGHBOUR: 'it returns false'. Refute it at one input. -/
def evalOtherWrong : ChangeSpec := { name := "evalOther", fn := fun _ => fun
  | [d1, d2, d3] => { results := [.lit (.bool false)], args := [d1, d2, d3] }
  | _ => none }
def EvalOtherWrongFalsely : Prop := evalOtherRow.holds Try.pinned (OpenSpec.ofChange evalOtherWrong)

/-- 'hucksterlaw04.DotsLess': WHATEVER THE INPUT: true; the input reads as it did. -/
def dotsLessSpec : ChangeSpec := { name := "dotsLess", fn := fun _ => fun
  | [d1, d2, d3] => { results := [.lit (.bool true)], args := [d1, d2, d3] }
  | _ => none }
def dotsLessRow : OpenClaim := { program := "ytlilmkblggifaaa", sum := "364aeb3f672af6791f7120f3e354ef0e21ec00f4bae634473279a7fcbf88c3d4", func := "huckster/hucksterlaw04.DotsLess", spec := "dotsLess", unfollowed := true, recurses := true, plainKeys := false, apart := false }
def DotsLessSaid : Prop := dotsLessRow.holds Try.pinned (OpenSpec.ofChange dotsLessSpec)

/-- ITS FALSE NEIGHBOUR: 'it returns false'. Refute it at one input. -/
def dotsLessWrong : ChangeSpec := { name := "dotsLess", fn := fun _ => fun
  | [d1, d2, d3] => { results := [.lit (.bool false)], args := [d1, d2, d3] }
  | _ => none }
def DotsLessWrongFalsely : Prop := dotsLessRow.holds Try.pinned (OpenSpec.ofChange dotsLessWrong)

/-- 'hucksterlaw04.DotsAdd': WHATEVER THE INPUT: true; the input reads as it did. -/
def dotsAddSpec : ChangeSpec := { name := "dotsAdd", fn := fun _ => fun
  | [d1, d2, d3] => { results := [.lit (.bool true)], args := [d1, d2, d3] }
  | _ => none }
def dotsAddRow : OpenClaim := { program := "ytlilmkblggifaaa", sum := "364aeb3f672af6791f7120f3e354ef0e21ec00f4bae634473279a7fcbf88c3d4", func := "huckster/hucksterlaw04.DotsAdd", spec := "dotsAdd", unfollowed := true, recurses := true, plainKeys := false, apart := false }
def DotsAddSaid : Prop := dotsAddRow.holds Try.pinned (OpenSpec.ofChange dotsAddSpec)

/-- ITS FALSE NEIGHBOUR: 'it returns false'. Refute it at one input. -/
def dotsAddWrong : ChangeSpec := { name := "dotsAdd", fn := fun _ => fun
  | [d1, d2, d3] => { results := [.lit (.bool false)], args := [d1, d2, d3] }
  | _ => none }
def DotsAddWrongFalsely : Prop := dotsAddRow.holds Try.pinned (OpenSpec.ofChange dotsAddWrong)

/-- 'hucksterlaw04.DotsOne': WHATEVER THE INPUT: true; the input reads as it did. -/
def dotsOneSpec : ChangeSpec := { name := "dotsOne", fn := fun _ => fun
  | [d1, d2, d3] => { results := [.lit (.bool true)], args := [d1, d2, d3] }
  | _ => none }
def dotsOneRow : OpenClaim := { program := "ytlilmkblggifaaa", sum := "364aeb3f672af6791f7120f3e354ef0e21ec00f4bae634473279a7fcbf88c3d4", func := "huckster/hucksterlaw04.DotsOne", spec := "dotsOne", unfollowed := true, recurses := true, plainKeys := false, apart := false }
def DotsOneSaid : Prop := dotsOneRow.holds Try.pinned (OpenSpec.ofChange dotsOneSpec)

/-- ITS FALSE NEIGHBOUR: 'it returns false'. Refute it at one input. -/
def dotsOneWrong : ChangeSpec := { name := "dotsOne", fn := fun _ => fun
  | [d1, d2, d3] => { results := [.lit (.bool false)], args := [d1, d2, d3] }
  | _ => none }
def DotsOneWrongFalsely : Prop := dotsOneRow.holds Try.pinned (OpenSpec.ofChange dotsOneWrong)

/-- 'hucksterlaw04.DotsJoin': WHATEVER THE INPUT: true; the input reads as it did. -/
def dotsJoinSpec : ChangeSpec := { name := "dotsJoin", fn := fun _ => fun
  | [d1, d2] => { results := [.lit (.bool true)], args := [d1, d2] }
  | _ => none }
def dotsJoinRow : OpenClaim := { program := "ytlilmkblggifaaa", sum := "364aeb3f672af6791f7120f3e354ef0e21ec00f4bae634473279a7fcbf88c3d4", func := "huckster/hucksterlaw04.DotsJoin", spec := "dotsJoin", unfollowed := true, recurses := true, plainKeys := false, apart := false }
def DotsJoinSaid : Prop := dotsJoinRow.holds Try.pinned (OpenSpec.ofChange dotsJoinSpec)

/-- ITS FALSE NEIGHBOUR: 'it returns false'. Refute it at one input. -/
def dotsJoinWrong : ChangeSpec := { name := "dotsJoin", fn := fun _ => fun
  | [d1, d2] => { results := [.lit (.bool false)], args := [d1, d2] }
  | _ => none }
def DotsJoinWrongFalsely : Prop := dotsJoinRow.holds Try.pinned (OpenSpec.ofChange dotsJoinWrong)

/- THE SECOND FORM. 'bulk': how many values and letters a reading holds, each counted each time it is reached (what is shared counts as often as it is met; a slice's spare places count too). A statement '..UptoSaid' is the law's where the arguments, and the package variables that the reading takes, are together of bulk at most 1048576: NARROWER than '..Said'. Prove '..Said' where nothing that the law and all that it calls make is longer than what came in: it says more and counts as full. Else prove '..UptoSaid'. A law counts once. -/
mutual
def uptoBulk {H : Type} : DataW H → Nat
  | .lit (.string bytes) => bytes.length + 1
  | .lit _ => 1
  | .nil => 1
  | .ptr d => uptoBulk d + 1
  | .slice elems spare => uptoBulkAll elems + uptoBulkAll spare + 1
  | .agg parts => uptoBulkAll parts + 1
  | .iface _ d => uptoBulk d + 1
  | .map entries => uptoBulkEntries entries + 1
  | .held _ => 1
def uptoBulkAll {H : Type} : List (DataW H) → Nat
  | [] => 0
  | d :: r => uptoBulk d + uptoBulkAll r
def uptoBulkEntries {H : Type} : List (Lit × DataW H) → Nat
  | [] => 0
  | x :: r => uptoBulkEntry x + uptoBulkEntries r
def uptoBulkEntry {H : Type} : Lit × DataW H → Nat
  | (.string bytes, d) => bytes.length + uptoBulk d + 1
  | (_, d) => uptoBulk d + 1
 end
def uptoSmall : (H : Type) → List (DataW H) → Bool := fun _ ds => decide (uptoBulkAll ds ≤ 1048576)
def OpenSpec.upto (s : _root_.Go.ChangeSpec) : _root_.Go.OpenSpec := { _root_.Go.OpenSpec.ofChange s with cond := some uptoSmall }

/-- 'hucksterlaw27.PostActs', WHERE WHAT IT READS IS OF BULK AT MOST 1048576: true; the input reads as it did. -/
def postActsUptoRow : OpenClaim := { program := "ytlilmkblggifaaa", sum := "364aeb3f672af6791f7120f3e354ef0e21ec00f4bae634473279a7fcbf88c3d4", func := "huckster/hucksterlaw27.PostActs", spec := "postActs", plainKeys := false, apart := false, narrowed := true }
def PostActsUptoSaid : Prop := postActsUptoRow.holds Try.pinned (OpenSpec.upto postActsSpec)

/-- 'hucksterlaw27.PostFull', WHERE WHAT IT READS IS OF BULK AT MOST 1048576: true; the input reads as it did. -/
def postFullUptoRow : OpenClaim := { program := "ytlilmkblggifaaa", sum := "364aeb3f672af6791f7120f3e354ef0e21ec00f4bae634473279a7fcbf88c3d4", func := "huckster/hucksterlaw27.PostFull", spec := "postFull", plainKeys := false, apart := false, narrowed := true }
def PostFullUptoSaid : Prop := postFullUptoRow.holds Try.pinned (OpenSpec.upto postFullSpec)

/-- 'hucksterlaw19.EvalHolds', WHERE WHAT IT READS IS OF BULK AT MOST 1048576: true; the input reads as it did. -/
def evalHoldsUptoRow : OpenClaim := { program := "ytlilmkblggifaaa", sum := "364aeb3f672af6791f7120f3e354ef0e21ec00f4bae634473279a7fcbf88c3d4", func := "huckster/hucksterlaw19.EvalHolds", spec := "evalHolds", unfollowed := true, recurses := true, plainKeys := false, apart := false, narrowed := true }
def EvalHoldsUptoSaid : Prop := evalHoldsUptoRow.holds Try.pinned (OpenSpec.upto evalHoldsSpec)

/-- 'hucksterlaw19.EvalOther', WHERE WHAT IT READS IS OF BULK AT MOST 1048576: true; the input reads as it did. -/
def evalOtherUptoRow : OpenClaim := { program := "ytlilmkblggifaaa", sum := "364aeb3f672af6791f7120f3e354ef0e21ec00f4bae634473279a7fcbf88c3d4", func := "huckster/hucksterlaw19.EvalOther", spec := "evalOther", inPlace := ["slices.overlaps[string]", "internal/bytealg.abigen_runtime_cmpstring", "slices.overlaps[huckster/api.Cell]"], unfollowed := true, recurses := true, plainKeys := false, apart := false, narrowed := true }
def EvalOtherUptoSaid : Prop := evalOtherUptoRow.holds Try.pinned (OpenSpec.upto evalOtherSpec)

/-- 'hucksterlaw04.DotsLess', WHERE WHAT IT READS IS OF BULK AT MOST 1048576: true; the input reads as it did. -/
def dotsLessUptoRow : OpenClaim := { program := "ytlilmkblggifaaa", sum := "364aeb3f672af6791f7120f3e354ef0e21ec00f4bae634473279a7fcbf88c3d4", func := "huckster/hucksterlaw04.DotsLess", spec := "dotsLess", unfollowed := true, recurses := true, plainKeys := false, apart := false, narrowed := true }
def DotsLessUptoSaid : Prop := dotsLessUptoRow.holds Try.pinned (OpenSpec.upto dotsLessSpec)

/-- 'hucksterlaw04.DotsAdd', WHERE WHAT IT READS IS OF BULK AT MOST 1048576: true; the input reads as it did. -/
def dotsAddUptoRow : OpenClaim := { program := "ytlilmkblggifaaa", sum := "364aeb3f672af6791f7120f3e354ef0e21ec00f4bae634473279a7fcbf88c3d4", func := "huckster/hucksterlaw04.DotsAdd", spec := "dotsAdd", unfollowed := true, recurses := true, plainKeys := false, apart := false, narrowed := true }
def DotsAddUptoSaid : Prop := dotsAddUptoRow.holds Try.pinned (OpenSpec.upto dotsAddSpec)

/-- 'hucksterlaw04.DotsOne', WHERE WHAT IT READS IS OF BULK AT MOST 1048576: true; the input reads as it did. -/
def dotsOneUptoRow : OpenClaim := { program := "ytlilmkblggifaaa", sum := "364aeb3f672af6791f7120f3e354ef0e21ec00f4bae634473279a7fcbf88c3d4", func := "huckster/hucksterlaw04.DotsOne", spec := "dotsOne", unfollowed := true, recurses := true, plainKeys := false, apart := false, narrowed := true }
def DotsOneUptoSaid : Prop := dotsOneUptoRow.holds Try.pinned (OpenSpec.upto dotsOneSpec)

/-- 'hucksterlaw04.DotsJoin', WHERE WHAT IT READS IS OF BULK AT MOST 1048576: true; the input reads as it did. -/
def dotsJoinUptoRow : OpenClaim := { program := "ytlilmkblggifaaa", sum := "364aeb3f672af6791f7120f3e354ef0e21ec00f4bae634473279a7fcbf88c3d4", func := "huckster/hucksterlaw04.DotsJoin", spec := "dotsJoin", unfollowed := true, recurses := true, plainKeys := false, apart := false, narrowed := true }
def DotsJoinUptoSaid : Prop := dotsJoinUptoRow.holds Try.pinned (OpenSpec.upto dotsJoinSpec)

end Rows
end Go.Proofs.Ytlilmkblggifaaa
