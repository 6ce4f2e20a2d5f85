/-
  No cell of these rows narrows 'for every input' (looked for: loops, veiled, ifaces, maps, wideKeys, modest, calm, conditions, laid).
  DERIVED. THE GIVEN ROWS OF THIS SEAT. 9 by the template 'for every input the law returns true; each argument reads behind the call as it read before'; 0 by the template 'total and deterministic' (their statements: YtilbbbjfdcnciaaGreatTotals.lean).
  GIVEN WITH THE SEED: the statements are not yours to turn. If you find one false, say at which input.
  Laid BY PROGRAM, IN A SANDBOX (cutbox-rows.mjs): the forced cells as the released guide's own fill.sh prints them over the translation dd0947132394ba02… (all of the seat's roots in one cut). By AI agents, Wed Nov 11 2026. No macro, syntax, notation, axiom, sorry.
-/
import Derived.Test.YtilbbbjfdcnciaaGreatChecked
import GoSem.Claim
import GoSem.ClaimJoined
import GoSem.ClaimMapViews
import Derived.JoinedTies
import Derived.KernelRfl
namespace Go.Proofs.YtilbbbjfdcnciaaGreat
/- THE CELL 'sum', in the pinned program and in every row, IS THE sha256 OF THE DUMP (.gsa) THAT YtilbbbjfdcnciaaGreatProg.lean LOADS. Nothing in Lean hashes anything: it is a label: what it is worth is what the hold of that sum in a sandbox is worth. -/
noncomputable def Tryz.pinned : Pinned := { name := "ytilbbbjfdcnciaagreat", sum := "dd0947132394ba0254635120a5c75b1ccaf486d76ec8475f27bed8cc2bb42a6b", checked := Tryz.checked }
namespace Rows
def none {H : Type} : Left H := { results := [], args := [] }

/-- 'spokeshavelaw17.ProfileHulls': WHATEVER THE INPUT: true; the input reads as it did. -/
def profileHullsSpec : ChangeSpec := { name := "profileHulls", fn := fun _ => fun
  | [d] => { results := [.lit (.bool true)], args := [d] }
  | _ => none }
def profileHullsRow : OpenClaim := { program := "ytilbbbjfdcnciaagreat", sum := "dd0947132394ba0254635120a5c75b1ccaf486d76ec8475f27bed8cc2bb42a6b", func := "spokeshave/spokeshavelaw17.ProfileHulls", spec := "profileHulls", inPlace := ["math/bits.Sub64", "math/bits.Add64"], unfollowed := true, recurses := true, named := ["math/bits.divideError", "math/bits.overflowError"], plainKeys := false, apart := false }
def ProfileHullsSaid : Prop := profileHullsRow.holds Tryz.pinned (OpenSpec.ofChange profileHullsSpec)

/-- ITS FALSE NEIGHBOUR: 'it returns false'. Refute it at one input. -/
def profileHullsWrong : ChangeSpec := { name := "profileHulls", fn := fun _ => fun
  | [d] => { results := [.lit (.bool false)], args := [d] }
  | _ => none }
def ProfileHullsWrongFalsely : Prop := profileHullsRow.holds Tryz.pinned (OpenSpec.ofChange profileHullsWrong)

/-- 'spokeshavelaw17.ProfileWhere': WHATEVER THE INPUT: true; the input reads as it did. -/
def profileWhereSpec : ChangeSpec := { name := "profileWhere", fn := fun _ => fun
  | [d1, d2, d3, d4] => { results := [.lit (.bool true)], args := [d1, d2, d3, d4] }
  | _ => none }
def profileWhereRow : OpenClaim := { program := "ytilbbbjfdcnciaagreat", sum := "dd0947132394ba0254635120a5c75b1ccaf486d76ec8475f27bed8cc2bb42a6b", func := "spokeshave/spokeshavelaw17.ProfileWhere", spec := "profileWhere", inPlace := ["math/bits.Sub64", "math/bits.Add64"], unfollowed := true, recurses := true, named := ["math/bits.divideError", "math/bits.overflowError"], plainKeys := false, apart := false }
def ProfileWhereSaid : Prop := profileWhereRow.holds Tryz.pinned (OpenSpec.ofChange profileWhereSpec)

/-- ITS FALSE NEIGHBOUR: 'it returns false'. Refute it at one input. -/
def profileWhereWrong : ChangeSpec := { name := "profileWhere", fn := fun _ => fun
  | [d1, d2, d3, d4] => { results := [.lit (.bool false)], args := [d1, d2, d3, d4] }
  | _ => none }
def ProfileWhereWrongFalsely : Prop := profileWhereRow.holds Tryz.pinned (OpenSpec.ofChange profileWhereWrong)

/-- 'spokeshavelaw17.ProfilePick': WHATEVER THE INPUT: true; the input reads as it did. -/
def profilePickSpec : ChangeSpec := { name := "profilePick", fn := fun _ => fun
  | [d] => { results := [.lit (.bool true)], args := [d] }
  | _ => none }
def profilePickRow : OpenClaim := { program := "ytilbbbjfdcnciaagreat", sum := "dd0947132394ba0254635120a5c75b1ccaf486d76ec8475f27bed8cc2bb42a6b", func := "spokeshave/spokeshavelaw17.ProfilePick", spec := "profilePick", inPlace := ["math/bits.Sub64", "math/bits.Add64"], unfollowed := true, recurses := true, named := ["math/bits.divideError", "math/bits.overflowError"], plainKeys := false, apart := false }
def ProfilePickSaid : Prop := profilePickRow.holds Tryz.pinned (OpenSpec.ofChange profilePickSpec)

/-- ITS FALSE NEIGHBOUR: 'it returns false'. Refute it at one input. -/
def profilePickWrong : ChangeSpec := { name := "profilePick", fn := fun _ => fun
  | [d] => { results := [.lit (.bool false)], args := [d] }
  | _ => none }
def ProfilePickWrongFalsely : Prop := profilePickRow.holds Tryz.pinned (OpenSpec.ofChange profilePickWrong)

/-- 'spokeshavelaw17.ProfileChecks': WHATEVER THE INPUT: true; the input reads as it did. -/
def profileChecksSpec : ChangeSpec := { name := "profileChecks", fn := fun _ => fun
  | [d] => { results := [.lit (.bool true)], args := [d] }
  | _ => none }
def profileChecksRow : OpenClaim := { program := "ytilbbbjfdcnciaagreat", sum := "dd0947132394ba0254635120a5c75b1ccaf486d76ec8475f27bed8cc2bb42a6b", func := "spokeshave/spokeshavelaw17.ProfileChecks", spec := "profileChecks", inPlace := ["math/bits.Sub64", "math/bits.Add64"], unfollowed := true, recurses := true, named := ["math/bits.divideError", "math/bits.overflowError"], plainKeys := false, apart := false }
def ProfileChecksSaid : Prop := profileChecksRow.holds Tryz.pinned (OpenSpec.ofChange profileChecksSpec)

/-- ITS FALSE NEIGHBOUR: 'it returns false'. Refute it at one input. -/
def profileChecksWrong : ChangeSpec := { name := "profileChecks", fn := fun _ => fun
  | [d] => { results := [.lit (.bool false)], args := [d] }
  | _ => none }
def ProfileChecksWrongFalsely : Prop := profileChecksRow.holds Tryz.pinned (OpenSpec.ofChange profileChecksWrong)

/-- 'spokeshavelaw17.ProfileBoxes': WHATEVER THE INPUT: true; the input reads as it did. -/
def profileBoxesSpec : ChangeSpec := { name := "profileBoxes", fn := fun _ => fun
  | [d1, d2, d3, d4] => { results := [.lit (.bool true)], args := [d1, d2, d3, d4] }
  | _ => none }
def profileBoxesRow : OpenClaim := { program := "ytilbbbjfdcnciaagreat", sum := "dd0947132394ba0254635120a5c75b1ccaf486d76ec8475f27bed8cc2bb42a6b", func := "spokeshave/spokeshavelaw17.ProfileBoxes", spec := "profileBoxes", inPlace := ["math/bits.Sub64", "math/bits.Add64"], unfollowed := true, recurses := true, named := ["math/bits.divideError", "math/bits.overflowError"], plainKeys := false, apart := false }
def ProfileBoxesSaid : Prop := profileBoxesRow.holds Tryz.pinned (OpenSpec.ofChange profileBoxesSpec)

/-- ITS FALSE NEIGHBOUR: 'it returns false'. Refute it at one input. -/
def profileBoxesWrong : ChangeSpec := { name := "profileBoxes", fn := fun _ => fun
  | [d1, d2, d3, d4] => { results := [.lit (.bool false)], args := [d1, d2, d3, d4] }
  | _ => none }
def ProfileBoxesWrongFalsely : Prop := profileBoxesRow.holds Tryz.pinned (OpenSpec.ofChange profileBoxesWrong)

/-- 'spokeshavelaw17.ProfileMeasures': WHATEVER THE INPUT: true; the input reads as it did. -/
def profileMeasuresSpec : ChangeSpec := { name := "profileMeasures", fn := fun _ => fun
  | [d] => { results := [.lit (.bool true)], args := [d] }
  | _ => none }
def profileMeasuresRow : OpenClaim := { program := "ytilbbbjfdcnciaagreat", sum := "dd0947132394ba0254635120a5c75b1ccaf486d76ec8475f27bed8cc2bb42a6b", func := "spokeshave/spokeshavelaw17.ProfileMeasures", spec := "profileMeasures", inPlace := ["math/bits.Sub64", "math/bits.Add64"], unfollowed := true, recurses := true, named := ["math/bits.divideError", "math/bits.overflowError"], plainKeys := false, apart := false }
def ProfileMeasuresSaid : Prop := profileMeasuresRow.holds Tryz.pinned (OpenSpec.ofChange profileMeasuresSpec)

/-- ITS FALSE NEIGHBOUR: 'it returns false'. Refute it at one input. -/
def profileMeasuresWrong : ChangeSpec := { name := "profileMeasures", fn := fun _ => fun
  | [d] => { results := [.lit (.bool false)], args := [d] }
  | _ => none }
def ProfileMeasuresWrongFalsely : Prop := profileMeasuresRow.holds Tryz.pinned (OpenSpec.ofChange profileMeasuresWrong)

/-- 'spokeshavelaw17.ProfileMoves': WHATEVER THE INPUT: true; the input reads as it did. -/
def profileMovesSpec : ChangeSpec := { name := "profileMoves", fn := fun _ => fun
  | [d1, d2, d3, d4, d5] => { results := [.lit (.bool true)], args := [d1, d2, d3, d4, d5] }
  | _ => none }
def profileMovesRow : OpenClaim := { program := "ytilbbbjfdcnciaagreat", sum := "dd0947132394ba0254635120a5c75b1ccaf486d76ec8475f27bed8cc2bb42a6b", func := "spokeshave/spokeshavelaw17.ProfileMoves", spec := "profileMoves", inPlace := ["math/bits.Sub64", "math/bits.Add64"], unfollowed := true, recurses := true, named := ["math/bits.divideError", "math/bits.overflowError"], plainKeys := false, apart := false }
def ProfileMovesSaid : Prop := profileMovesRow.holds Tryz.pinned (OpenSpec.ofChange profileMovesSpec)

/-- ITS FALSE NEIGHBOUR: 'it returns false'. Refute it at one input. -/
def profileMovesWrong : ChangeSpec := { name := "profileMoves", fn := fun _ => fun
  | [d1, d2, d3, d4, d5] => { results := [.lit (.bool false)], args := [d1, d2, d3, d4, d5] }
  | _ => none }
def ProfileMovesWrongFalsely : Prop := profileMovesRow.holds Tryz.pinned (OpenSpec.ofChange profileMovesWrong)

/-- 'spokeshavelaw17.ProfileKeeps': WHATEVER THE INPUT: true; the input reads as it did. -/
def profileKeepsSpec : ChangeSpec := { name := "profileKeeps", fn := fun _ => fun
  | [d1, d2, d3, d4] => { results := [.lit (.bool true)], args := [d1, d2, d3, d4] }
  | _ => none }
def profileKeepsRow : OpenClaim := { program := "ytilbbbjfdcnciaagreat", sum := "dd0947132394ba0254635120a5c75b1ccaf486d76ec8475f27bed8cc2bb42a6b", func := "spokeshave/spokeshavelaw17.ProfileKeeps", spec := "profileKeeps", inPlace := ["math/bits.Sub64", "math/bits.Add64"], unfollowed := true, recurses := true, named := ["math/bits.divideError", "math/bits.overflowError"], plainKeys := false, apart := false }
def ProfileKeepsSaid : Prop := profileKeepsRow.holds Tryz.pinned (OpenSpec.ofChange profileKeepsSpec)

/-- ITS FALSE NEIGHBOUR: 'it returns false'. Refute it at one input. -/
def profileKeepsWrong : ChangeSpec := { name := "profileKeeps", fn := fun _ => fun
  | [d1, d2, d3, d4] => { results := [.lit (.bool false)], args := [d1, d2, d3, d4] }
  | _ => none }
def ProfileKeepsWrongFalsely : Prop := profileKeepsRow.holds Tryz.pinned (OpenSpec.ofChange profileKeepsWrong)

/-- 'spokeshavelaw17.ProfileTriangles': WHATEVER THE INPUT: true; the input reads as it did. -/
def profileTrianglesSpec : ChangeSpec := { name := "profileTriangles", fn := fun _ => fun
  | [d] => { results := [.lit (.bool true)], args := [d] }
  | _ => none }
def profileTrianglesRow : OpenClaim := { program := "ytilbbbjfdcnciaagreat", sum := "dd0947132394ba0254635120a5c75b1ccaf486d76ec8475f27bed8cc2bb42a6b", func := "spokeshave/spokeshavelaw17.ProfileTriangles", spec := "profileTriangles", inPlace := ["math/bits.Sub64", "math/bits.Add64"], unfollowed := true, recurses := true, named := ["math/bits.divideError", "math/bits.overflowError"], plainKeys := false, apart := false }
def ProfileTrianglesSaid : Prop := profileTrianglesRow.holds Tryz.pinned (OpenSpec.ofChange profileTrianglesSpec)

/-- ITS FALSE NEIGHBOUR: 'it returns false'. Refute it at one input. -/
def profileTrianglesWrong : ChangeSpec := { name := "profileTriangles", fn := fun _ => fun
  | [d] => { results := [.lit (.bool false)], args := [d] }
  | _ => none }
def ProfileTrianglesWrongFalsely : Prop := profileTrianglesRow.holds Tryz.pinned (OpenSpec.ofChange profileTrianglesWrong)

/- THE SECOND FORM. 'bulk': how many values and letters a reading holds, each counted each time it is reached (what is shared counts as often as it is met; a slice's spare places count too). A statement '..UptoSaid' is the law's where the arguments, and the package variables that the reading takes, are together of bulk at most 1048576: NARROWER than '..Said'. Prove '..Said' where nothing that the law and all that it calls make is longer than what came in: it says more and counts as full. Else prove '..UptoSaid'. A law counts once. -/
mutual
def uptoBulk {H : Type} : DataW H → Nat
  | .lit (.string bytes) => bytes.length + 1
  | .lit _ => 1
  | .nil => 1
  | .ptr d => uptoBulk d + 1
  | .slice elems spare => uptoBulkAll elems + uptoBulkAll spare + 1
  | .agg parts => uptoBulkAll parts + 1
  | .iface _ d => uptoBulk d + 1
  | .map entries => uptoBulkEntries entries + 1
  | .held _ => 1
def uptoBulkAll {H : Type} : List (DataW H) → Nat
  | [] => 0
  | d :: r => uptoBulk d + uptoBulkAll r
def uptoBulkEntries {H : Type} : List (Lit × DataW H) → Nat
  | [] => 0
  | x :: r => uptoBulkEntry x + uptoBulkEntries r
def uptoBulkEntry {H : Type} : Lit × DataW H → Nat
  | (.string bytes, d) => bytes.length + uptoBulk d + 1
  | (_, d) => uptoBulk d + 1
 end
def uptoSmall : (H : Type) → List (DataW H) → Bool := fun _ ds => decide (uptoBulkAll ds ≤ 1048576)
def OpenSpec.upto (s : _root_.Go.ChangeSpec) : _root_.Go.OpenSpec := { _root_.Go.OpenSpec.ofChange s with cond := some uptoSmall }

/-- 'spokeshavelaw17.ProfileHulls', WHERE WHAT IT READS IS OF BULK AT MOST 1048576: true; the input reads as it did. -/
def profileHullsUptoRow : OpenClaim := { program := "ytilbbbjfdcnciaagreat", sum := "dd0947132394ba0254635120a5c75b1ccaf486d76ec8475f27bed8cc2bb42a6b", func := "spokeshave/spokeshavelaw17.ProfileHulls", spec := "profileHulls", inPlace := ["math/bits.Sub64", "math/bits.Add64"], unfollowed := true, recurses := true, named := ["math/bits.divideError", "math/bits.overflowError"], plainKeys := false, apart := false, narrowed := true }
def ProfileHullsUptoSaid : Prop := profileHullsUptoRow.holds Tryz.pinned (OpenSpec.upto profileHullsSpec)

/-- 'spokeshavelaw17.ProfileWhere', WHERE WHAT IT READS IS OF BULK AT MOST 1048576: true; the input reads as it did. -/
def profileWhereUptoRow : OpenClaim := { program := "ytilbbbjfdcnciaagreat", sum := "dd0947132394ba0254635120a5c75b1ccaf486d76ec8475f27bed8cc2bb42a6b", func := "spokeshave/spokeshavelaw17.ProfileWhere", spec := "profileWhere", inPlace := ["math/bits.Sub64", "math/bits.Add64"], unfollowed := true, recurses := true, named := ["math/bits.divideError", "math/bits.overflowError"], plainKeys := false, apart := false, narrowed := true }
def ProfileWhereUptoSaid : Prop := profileWhereUptoRow.holds Tryz.pinned (OpenSpec.upto profileWhereSpec)

/-- 'spokeshavelaw17.ProfilePick', WHERE WHAT IT READS IS OF BULK AT MOST 1048576: true; the input reads as it did. -/
def profilePickUptoRow : OpenClaim := { program := "ytilbbbjfdcnciaagreat", sum := "dd0947132394ba0254635120a5c75b1ccaf486d76ec8475f27bed8cc2bb42a6b", func := "spokeshave/spokeshavelaw17.ProfilePick", spec := "profilePick", inPlace := ["math/bits.Sub64", "math/bits.Add64"], unfollowed := true, recurses := true, named := ["math/bits.divideError", "math/bits.overflowError"], plainKeys := false, apart := false, narrowed := true }
def ProfilePickUptoSaid : Prop := profilePickUptoRow.holds Tryz.pinned (OpenSpec.upto profilePickSpec)

/-- 'spokeshavelaw17.ProfileChecks', WHERE WHAT IT READS IS OF BULK AT MOST 1048576: true; the input reads as it did. -/
def profileChecksUptoRow : OpenClaim := { program := "ytilbbbjfdcnciaagreat", sum := "dd0947132394ba0254635120a5c75b1ccaf486d76ec8475f27bed8cc2bb42a6b", func := "spokeshave/spokeshavelaw17.ProfileChecks", spec := "profileChecks", inPlace := ["math/bits.Sub64", "math/bits.Add64"], unfollowed := true, recurses := true, named := ["math/bits.divideError", "math/bits.overflowError"], plainKeys := false, apart := false, narrowed := true }
def ProfileChecksUptoSaid : Prop := profileChecksUptoRow.holds Tryz.pinned (OpenSpec.upto profileChecksSpec)

/-- 'spokeshavelaw17.ProfileBoxes', WHERE WHAT IT READS IS OF BULK AT MOST 1048576: true; the input reads as it did. -/
def profileBoxesUptoRow : OpenClaim := { program := "ytilbbbjfdcnciaagreat", sum := "dd0947132394ba0254635120a5c75b1ccaf486d76ec8475f27bed8cc2bb42a6b", func := "spokeshave/spokeshavelaw17.ProfileBoxes", spec := "profileBoxes", inPlace := ["math/bits.Sub64", "math/bits.Add64"], unfollowed := true, recurses := true, named := ["math/bits.divideError", "math/bits.overflowError"], plainKeys := false, apart := false, narrowed := true }
def ProfileBoxesUptoSaid : Prop := profileBoxesUptoRow.holds Tryz.pinned (OpenSpec.upto profileBoxesSpec)

/-- 'spokeshavelaw17.ProfileMeasures', WHERE WHAT IT READS IS OF BULK AT MOST 1048576: true; the input reads as it did. -/
def profileMeasuresUptoRow : OpenClaim := { program := "ytilbbbjfdcnciaagreat", sum := "dd0947132394ba0254635120a5c75b1ccaf486d76ec8475f27bed8cc2bb42a6b", func := "spokeshave/spokeshavelaw17.ProfileMeasures", spec := "profileMeasures", inPlace := ["math/bits.Sub64", "math/bits.Add64"], unfollowed := true, recurses := true, named := ["math/bits.divideError", "math/bits.overflowError"], plainKeys := false, apart := false, narrowed := true }
def ProfileMeasuresUptoSaid : Prop := profileMeasuresUptoRow.holds Tryz.pinned (OpenSpec.upto profileMeasuresSpec)

/-- 'spokeshavelaw17.ProfileMoves', WHERE WHAT IT READS IS OF BULK AT MOST 1048576: true; the input reads as it did. -/
def profileMovesUptoRow : OpenClaim := { program := "ytilbbbjfdcnciaagreat", sum := "dd0947132394ba0254635120a5c75b1ccaf486d76ec8475f27bed8cc2bb42a6b", func := "spokeshave/spokeshavelaw17.ProfileMoves", spec := "profileMoves", inPlace := ["math/bits.Sub64", "math/bits.Add64"], unfollowed := true, recurses := true, named := ["math/bits.divideError", "math/bits.overflowError"], plainKeys := false, apart := false, narrowed := true }
def ProfileMovesUptoSaid : Prop := profileMovesUptoRow.holds Tryz.pinned (OpenSpec.upto profileMovesSpec)

/-- 'spokeshavelaw17.ProfileKeeps', WHERE WHAT IT READS IS OF BULK AT MOST 1048576: true; the input reads as it did. -/
def profileKeepsUptoRow : OpenClaim := { program := "ytilbbbjfdcnciaagreat", sum := "dd0947132394ba0254635120a5c75b1ccaf486d76ec8475f27bed8cc2bb42a6b", func := "spokeshave/spokeshavelaw17.ProfileKeeps", spec := "profileKeeps", inPlace := ["math/bits.Sub64", "math/bits.Add64"], unfollowed := true, recurses := true, named := ["math/bits.divideError", "math/bits.overflowError"], plainKeys := false, apart := false, narrowed := true }
def ProfileKeepsUptoSaid : Prop := profileKeepsUptoRow.holds Tryz.pinned (OpenSpec.upto profileKeepsSpec)

/-- 'spokeshavelaw17.ProfileTriangles', WHERE WHAT IT READS IS OF BULK AT MOST 1048576: true; the input reads as it did. -/
def profileTrianglesUptoRow : OpenClaim := { program := "ytilbbbjfdcnciaagreat", sum := "dd0947132394ba0254635120a5c75b1ccaf486d76ec8475f27bed8cc2bb42a6b", func := "spokeshave/spokeshavelaw17.ProfileTriangles", spec := "profileTriangles", inPlace := ["math/bits.Sub64", "math/bits.Add64"], unfollowed := true, recurses := true, named := ["math/bits.divideError", "math/bits.overflowError"], plainKeys := false, apart := false, narrowed := true }
def ProfileTrianglesUptoSaid : Prop := profileTrianglesUptoRow.holds Tryz.pinned (OpenSpec.upto profileTrianglesSpec)

end Rows
end Go.Proofs.YtilbbbjfdcnciaaGreat
