/-
  No cell of these rows narrows 'for every input' (looked for: loops, veiled, ifaces, maps, wideKeys, modest, calm, conditions, laid).
  DERIVED. THE GIVEN ROWS OF THIS SEAT. 3 by the template 'for every input the law returns true; each argument reads behind the call as it read before'; 0 by the template 'total and deterministic' (their statements: YtmhkagfncnnfdaaGreatTotals.lean).
  GIVEN WITH THE SEED: the statements are not yours to turn. If you find one false, say at which input.
  Laid BY PROGRAM, IN A SANDBOX (cutbox-rows.mjs): the forced cells as the released guide's own fill.sh prints them over the translation 57a5c5a62e4caee8… (all of the seat's roots in one cut). By AI agents, Wed Nov 11 2026. No macro, syntax, notation, axiom, sorry.
-/
import Derived.Test.YtmhkagfncnnfdaaGreatChecked
import GoSem.Claim
import GoSem.ClaimJoined
import GoSem.ClaimMapViews
import Derived.JoinedTies
import Derived.KernelRfl
namespace Go.Proofs.YtmhkagfncnnfdaaGreat
/- THE CELL 'sum', in the pinned program and in every row, IS THE sha256 OF THE DUMP (.gsa) THAT YtmhkagfncnnfdaaGreatProg.lean LOADS. Nothing in Lean hashes anything: it is a label: what it is worth is what the hold of that sum in a sandbox is worth. -/
noncomputable def Tryz.pinned : Pinned := { name := "ytmhkagfncnnfdaagreat", sum := "57a5c5a62e4caee877f3bb309ec94d0d1db7ed2c889eb944ae44682ebbf2badf", checked := Tryz.checked }
namespace Rows
def none {H : Type} : Left H := { results := [], args := [] }

/-- 'hucksterlaw19.EvalDoes': WHATEVER THE INPUT: true; the input reads as it did. -/
def evalDoesSpec : ChangeSpec := { name := "evalDoes", fn := fun _ => fun
  | [d1, d2, d3] => { results := [.lit (.bool true)], args := [d1, d2, d3] }
  | _ => none }
def evalDoesRow : OpenClaim := { program := "ytmhkagfncnnfdaagreat", sum := "57a5c5a62e4caee877f3bb309ec94d0d1db7ed2c889eb944ae44682ebbf2badf", func := "huckster/hucksterlaw19.EvalDoes", spec := "evalDoes", inPlace := ["slices.overlaps[string]", "internal/bytealg.abigen_runtime_cmpstring", "slices.overlaps[huckster/api.Cell]"], unfollowed := true, recurses := true, plainKeys := false, apart := false }
def EvalDoesSaid : Prop := evalDoesRow.holds Tryz.pinned (OpenSpec.ofChange evalDoesSpec)

/-- ITS FALSE NEIGHBOUR: 'it returns false'. Refute it at one input. -/
def evalDoesWrong : ChangeSpec := { name := "evalDoes", fn := fun _ => fun
  | [d1, d2, d3] => { results := [.lit (.bool false)], args := [d1, d2, d3] }
  | _ => none }
def EvalDoesWrongFalsely : Prop := evalDoesRow.holds Tryz.pinned (OpenSpec.ofChange evalDoesWrong)

/-- 'hucksterlaw18.NormPlain': WHATEVER THE INPUT: true; the input reads as it did. -/
def normPlainSpec : ChangeSpec := { name := "normPlain", fn := fun _ => fun
  | [d] => { results := [.lit (.bool true)], args := [d] }
  | _ => none }
def normPlainRow : OpenClaim := { program := "ytmhkagfncnnfdaagreat", sum := "57a5c5a62e4caee877f3bb309ec94d0d1db7ed2c889eb944ae44682ebbf2badf", func := "huckster/hucksterlaw18.NormPlain", spec := "normPlain", unfollowed := true, recurses := true, plainKeys := false, apart := false }
def NormPlainSaid : Prop := normPlainRow.holds Tryz.pinned (OpenSpec.ofChange normPlainSpec)

/-- ITS FALSE NEIGHBOUR: 'it returns false'. Refute it at one input. -/
def normPlainWrong : ChangeSpec := { name := "normPlain", fn := fun _ => fun
  | [d] => { results := [.lit (.bool false)], args := [d] }
  | _ => none }
def NormPlainWrongFalsely : Prop := normPlainRow.holds Tryz.pinned (OpenSpec.ofChange normPlainWrong)

/-- 'hucksterlaw19.EvalPlain': WHATEVER THE INPUT: true; the input reads as it did. -/
def evalPlainSpec : ChangeSpec := { name := "evalPlain", fn := fun _ => fun
  | [d1, d2] => { results := [.lit (.bool true)], args := [d1, d2] }
  | _ => none }
def evalPlainRow : OpenClaim := { program := "ytmhkagfncnnfdaagreat", sum := "57a5c5a62e4caee877f3bb309ec94d0d1db7ed2c889eb944ae44682ebbf2badf", func := "huckster/hucksterlaw19.EvalPlain", spec := "evalPlain", unfollowed := true, recurses := true, plainKeys := false, apart := false }
def EvalPlainSaid : Prop := evalPlainRow.holds Tryz.pinned (OpenSpec.ofChange evalPlainSpec)

/-- ITS FALSE NEIGHBOUR: 'it returns false'. Refute it at one input. -/
def evalPlainWrong : ChangeSpec := { name := "evalPlain", fn := fun _ => fun
  | [d1, d2] => { results := [.lit (.bool false)], args := [d1, d2] }
  | _ => none }
def EvalPlainWrongFalsely : Prop := evalPlainRow.holds Tryz.pinned (OpenSpec.ofChange evalPlainWrong)

/- THE SECOND FORM. 'bulk': how many values and letters a reading holds, each counted each time it is reached (what is shared counts as often as it is met; a slice's spare places count too). A statement '..UptoSaid' is the law's where the arguments, and the package variables that the reading takes, are together of bulk at most 1048576: NARROWER than '..Said'. Prove '..Said' where nothing that the law and all that it calls make is longer than what came in: it says more and counts as full. Else prove '..UptoSaid'. A law counts once. -/
mutual
def uptoBulk {H : Type} : DataW H → Nat
  | .lit (.string bytes) => bytes.length + 1
  | .lit _ => 1
  | .nil => 1
  | .ptr d => uptoBulk d + 1
  | .slice elems spare => uptoBulkAll elems + uptoBulkAll spare + 1
  | .agg parts => uptoBulkAll parts + 1
  | .iface _ d => uptoBulk d + 1
  | .map entries => uptoBulkEntries entries + 1
  | .held _ => 1
def uptoBulkAll {H : Type} : List (DataW H) → Nat
  | [] => 0
  | d :: r => uptoBulk d + uptoBulkAll r
def uptoBulkEntries {H : Type} : List (Lit × DataW H) → Nat
  | [] => 0
  | x :: r => uptoBulkEntry x + uptoBulkEntries r
def uptoBulkEntry {H : Type} : Lit × DataW H → Nat
  | (.string bytes, d) => bytes.length + uptoBulk d + 1
  | (_, d) => uptoBulk d + 1
 end
def uptoSmall : (H : Type) → List (DataW H) → Bool := fun _ ds => decide (uptoBulkAll ds ≤ 1048576)
def OpenSpec.upto (s : _root_.Go.ChangeSpec) : _root_.Go.OpenSpec := { _root_.Go.OpenSpec.ofChange s with cond := some uptoSmall }

/-- 'hucksterlaw19.EvalDoes', WHERE WHAT IT READS IS OF BULK AT MOST 1048576: true; the input reads as it did. -/
def evalDoesUptoRow : OpenClaim := { program := "ytmhkagfncnnfdaagreat", sum := "57a5c5a62e4caee877f3bb309ec94d0d1db7ed2c889eb944ae44682ebbf2badf", func := "huckster/hucksterlaw19.EvalDoes", spec := "evalDoes", inPlace := ["slices.overlaps[string]", "internal/bytealg.abigen_runtime_cmpstring", "slices.overlaps[huckster/api.Cell]"], unfollowed := true, recurses := true, plainKeys := false, apart := false, narrowed := true }
def EvalDoesUptoSaid : Prop := evalDoesUptoRow.holds Tryz.pinned (OpenSpec.upto evalDoesSpec)

/-- 'hucksterlaw18.NormPlain', WHERE WHAT IT READS IS OF BULK AT MOST 1048576: true; the input reads as it did. -/
def normPlainUptoRow : OpenClaim := { program := "ytmhkagfncnnfdaagreat", sum := "57a5c5a62e4caee877f3bb309ec94d0d1db7ed2c889eb944ae44682ebbf2badf", func := "huckster/hucksterlaw18.NormPlain", spec := "normPlain", unfollowed := true, recurses := true, plainKeys := false, apart := false, narrowed := true }
def NormPlainUptoSaid : Prop := normPlainUptoRow.holds Tryz.pinned (OpenSpec.upto normPlainSpec)

/-- 'hucksterlaw19.EvalPlain', WHERE WHAT IT READS IS OF BULK AT MOST 1048576: true; the input reads as it did. -/
def evalPlainUptoRow : OpenClaim := { program := "ytmhkagfncnnfdaagreat", sum := "57a5c5a62e4caee877f3bb309ec94d0d1db7ed2c889eb944ae44682ebbf2badf", func := "huckster/hucksterlaw19.EvalPlain", spec := "evalPlain", unfollowed := true, recurses := true, plainKeys := false, apart := false, narrowed := true }
def EvalPlainUptoSaid : Prop := evalPlainUptoRow.holds Tryz.pinned (OpenSpec.upto evalPlainSpec)

end Rows
end Go.Proofs.YtmhkagfncnnfdaaGreat
