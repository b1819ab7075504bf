/-
  No cell of these rows narrows 'for every input' (looked for: loops, veiled, ifaces, maps, wideKeys, modest, calm, conditions, laid).
  DERIVED. THE GIVEN ROWS OF THIS SEAT. 12 by the template 'for every input the law returns true; each argument reads behind the call as it read before'; 0 by the template 'total and deterministic' (their statements: YtdcjbbeoocldeaaTotals.lean).
  GIVEN WITH THE SEED: the statements are not yours to turn. If you find one false, say at which input.
  Laid BY PROGRAM, IN A SANDBOX (cutbox-rows.mjs): the forced cells as the released guide's own fill.sh prints them over the translation f91ff4d7a84dd285… (all of the seat's roots in one cut). By AI agents, Wed Nov 11 2026. No macro, syntax, notation, axiom, sorry.
-/
import Derived.Test.YtdcjbbeoocldeaaChecked
import GoSem.Claim
import GoSem.ClaimJoined
import GoSem.ClaimMapViews
import Derived.JoinedTies
import Derived.KernelRfl
namespace Go.Proofs.Ytdcjbbeoocldeaa
/- THE CELL 'sum', in the pinned program and in every row, IS THE sha256 OF THE DUMP (.gsa) THAT YtdcjbbeoocldeaaProg.lean LOADS. Nothing in Lean hashes anything: it is a label: what it is worth is what the hold of that sum in a sandbox is worth. -/
noncomputable def Try.pinned : Pinned := { name := "ytdcjbbeoocldeaa", sum := "f91ff4d7a84dd285d80a36d3c0cb8eca8e0a6e09d9aab20621bf10070543f311", checked := Try.checked }
namespace Rows
def none {H : Type} : Left H := { results := [], args := [] }

/-- 'bigtoplaw01.CanvasBalances': WHATEVER THE INPUT: true; the input reads as it did. -/
def canvasBalancesSpec : ChangeSpec := { name := "canvasBalances", fn := fun _ => fun
  | [d1, d2, d3, d4] => { results := [.lit (.bool true)], args := [d1, d2, d3, d4] }
  | _ => none }
def canvasBalancesRow : OpenClaim := { program := "ytdcjbbeoocldeaa", sum := "f91ff4d7a84dd285d80a36d3c0cb8eca8e0a6e09d9aab20621bf10070543f311", func := "bigtop/bigtoplaw01.CanvasBalances", spec := "canvasBalances", unfollowed := true, recurses := true, apart := false }
def CanvasBalancesSaid : Prop := canvasBalancesRow.holds Try.pinned (OpenSpec.ofChange canvasBalancesSpec)

/-- ITS FALSE NEIGHBOUR: 'it returns false'. Refute it at one input. -/
def canvasBalancesWrong : ChangeSpec := { name := "canvasBalances", fn := fun _ => fun
  | [d1, d2, d3, d4] => { results := [.lit (.bool false)], args := [d1, d2, d3, d4] }
  | _ => none }
def CanvasBalancesWrongFalsely : Prop := canvasBalancesRow.holds Try.pinned (OpenSpec.ofChange canvasBalancesWrong)

/-- 'bigtoplaw01.CanvasReaches': WHATEVER THE INPUT: true; the input reads as it did. -/
def canvasReachesSpec : ChangeSpec := { name := "canvasReaches", fn := fun _ => fun
  | [d1, d2, d3, d4] => { results := [.lit (.bool true)], args := [d1, d2, d3, d4] }
  | _ => none }
def canvasReachesRow : OpenClaim := { program := "ytdcjbbeoocldeaa", sum := "f91ff4d7a84dd285d80a36d3c0cb8eca8e0a6e09d9aab20621bf10070543f311", func := "bigtop/bigtoplaw01.CanvasReaches", spec := "canvasReaches", unfollowed := true, recurses := true, apart := false }
def CanvasReachesSaid : Prop := canvasReachesRow.holds Try.pinned (OpenSpec.ofChange canvasReachesSpec)

/-- ITS FALSE NEIGHBOUR: 'it returns false'. Refute it at one input. -/
def canvasReachesWrong : ChangeSpec := { name := "canvasReaches", fn := fun _ => fun
  | [d1, d2, d3, d4] => { results := [.lit (.bool false)], args := [d1, d2, d3, d4] }
  | _ => none }
def CanvasReachesWrongFalsely : Prop := canvasReachesRow.holds Try.pinned (OpenSpec.ofChange canvasReachesWrong)

/-- 'bigtoplaw01.CanvasProves': WHATEVER THE INPUT: true; the input reads as it did. -/
def canvasProvesSpec : ChangeSpec := { name := "canvasProves", fn := fun _ => fun
  | [d1, d2, d3, d4, d5, d6, d7, d8, d9] => { results := [.lit (.bool true)], args := [d1, d2, d3, d4, d5, d6, d7, d8, d9] }
  | _ => none }
def canvasProvesRow : OpenClaim := { program := "ytdcjbbeoocldeaa", sum := "f91ff4d7a84dd285d80a36d3c0cb8eca8e0a6e09d9aab20621bf10070543f311", func := "bigtop/bigtoplaw01.CanvasProves", spec := "canvasProves", unfollowed := true, recurses := true, apart := false }
def CanvasProvesSaid : Prop := canvasProvesRow.holds Try.pinned (OpenSpec.ofChange canvasProvesSpec)

/-- ITS FALSE NEIGHBOUR: 'it returns false'. Refute it at one input. -/
def canvasProvesWrong : ChangeSpec := { name := "canvasProves", fn := fun _ => fun
  | [d1, d2, d3, d4, d5, d6, d7, d8, d9] => { results := [.lit (.bool false)], args := [d1, d2, d3, d4, d5, d6, d7, d8, d9] }
  | _ => none }
def CanvasProvesWrongFalsely : Prop := canvasProvesRow.holds Try.pinned (OpenSpec.ofChange canvasProvesWrong)

/-- 'bigtoplaw01.CanvasParts': WHATEVER THE INPUT: true; the input reads as it did. -/
def canvasPartsSpec : ChangeSpec := { name := "canvasParts", fn := fun _ => fun
  | [d1, d2] => { results := [.lit (.bool true)], args := [d1, d2] }
  | _ => none }
def canvasPartsRow : OpenClaim := { program := "ytdcjbbeoocldeaa", sum := "f91ff4d7a84dd285d80a36d3c0cb8eca8e0a6e09d9aab20621bf10070543f311", func := "bigtop/bigtoplaw01.CanvasParts", spec := "canvasParts", unfollowed := true, recurses := true, apart := false }
def CanvasPartsSaid : Prop := canvasPartsRow.holds Try.pinned (OpenSpec.ofChange canvasPartsSpec)

/-- ITS FALSE NEIGHBOUR: 'it returns false'. Refute it at one input. -/
def canvasPartsWrong : ChangeSpec := { name := "canvasParts", fn := fun _ => fun
  | [d1, d2] => { results := [.lit (.bool false)], args := [d1, d2] }
  | _ => none }
def CanvasPartsWrongFalsely : Prop := canvasPartsRow.holds Try.pinned (OpenSpec.ofChange canvasPartsWrong)

/-- 'bigtoplaw01.CanvasWeakest': WHATEVER THE INPUT: true; the input reads as it did. -/
def canvasWeakestSpec : ChangeSpec := { name := "canvasWeakest", fn := fun _ => fun
  | [d1, d2, d3] => { results := [.lit (.bool true)], args := [d1, d2, d3] }
  | _ => none }
def canvasWeakestRow : OpenClaim := { program := "ytdcjbbeoocldeaa", sum := "f91ff4d7a84dd285d80a36d3c0cb8eca8e0a6e09d9aab20621bf10070543f311", func := "bigtop/bigtoplaw01.CanvasWeakest", spec := "canvasWeakest", unfollowed := true, recurses := true, apart := false }
def CanvasWeakestSaid : Prop := canvasWeakestRow.holds Try.pinned (OpenSpec.ofChange canvasWeakestSpec)

/-- ITS FALSE NEIGHBOUR: 'it returns false'. Refute it at one input. -/
def canvasWeakestWrong : ChangeSpec := { name := "canvasWeakest", fn := fun _ => fun
  | [d1, d2, d3] => { results := [.lit (.bool false)], args := [d1, d2, d3] }
  | _ => none }
def CanvasWeakestWrongFalsely : Prop := canvasWeakestRow.holds Try.pinned (OpenSpec.ofChange canvasWeakestWrong)

/-- 'bigtoplaw01.CanvasMeans': WHATEVER THE INPUT: true; the input reads as it did. -/
def canvasMeansSpec : ChangeSpec := { name := "canvasMeans", fn := fun _ => fun
  | [d1, d2, d3, d4, d5] => { results := [.lit (.bool true)], args := [d1, d2, d3, d4, d5] }
  | _ => none }
def canvasMeansRow : OpenClaim := { program := "ytdcjbbeoocldeaa", sum := "f91ff4d7a84dd285d80a36d3c0cb8eca8e0a6e09d9aab20621bf10070543f311", func := "bigtop/bigtoplaw01.CanvasMeans", spec := "canvasMeans", unfollowed := true, recurses := true, apart := false }
def CanvasMeansSaid : Prop := canvasMeansRow.holds Try.pinned (OpenSpec.ofChange canvasMeansSpec)

/-- ITS FALSE NEIGHBOUR: 'it returns false'. Refute it at one input. -/
def canvasMeansWrong : ChangeSpec := { name := "canvasMeans", fn := fun _ => fun
  | [d1, d2, d3, d4, d5] => { results := [.lit (.bool false)], args := [d1, d2, d3, d4, d5] }
  | _ => none }
def CanvasMeansWrongFalsely : Prop := canvasMeansRow.holds Try.pinned (OpenSpec.ofChange canvasMeansWrong)

/-- 'bigtoplaw01.CanvasSafer': WHATEVER THE INPUT: true; the input reads as it did. -/
def canvasSaferSpec : ChangeSpec := { name := "canvasSafer", fn := fun _ => fun
  | [d1, d2, d3, d4, d5, d6, d7, d8] => { results := [.lit (.bool true)], args := [d1, d2, d3, d4, d5, d6, d7, d8] }
  | _ => none }
def canvasSaferRow : OpenClaim := { program := "ytdcjbbeoocldeaa", sum := "f91ff4d7a84dd285d80a36d3c0cb8eca8e0a6e09d9aab20621bf10070543f311", func := "bigtop/bigtoplaw01.CanvasSafer", spec := "canvasSafer", unfollowed := true, recurses := true, apart := false }
def CanvasSaferSaid : Prop := canvasSaferRow.holds Try.pinned (OpenSpec.ofChange canvasSaferSpec)

/-- ITS FALSE NEIGHBOUR: 'it returns false'. Refute it at one input. -/
def canvasSaferWrong : ChangeSpec := { name := "canvasSafer", fn := fun _ => fun
  | [d1, d2, d3, d4, d5, d6, d7, d8] => { results := [.lit (.bool false)], args := [d1, d2, d3, d4, d5, d6, d7, d8] }
  | _ => none }
def CanvasSaferWrongFalsely : Prop := canvasSaferRow.holds Try.pinned (OpenSpec.ofChange canvasSaferWrong)

/-- 'bigtoplaw01.CanvasUpto': WHATEVER THE INPUT: true; the input reads as it did. -/
def canvasUptoSpec : ChangeSpec := { name := "canvasUpto", fn := fun _ => fun
  | [d1, d2, d3, d4, d5, d6] => { results := [.lit (.bool true)], args := [d1, d2, d3, d4, d5, d6] }
  | _ => none }
def canvasUptoRow : OpenClaim := { program := "ytdcjbbeoocldeaa", sum := "f91ff4d7a84dd285d80a36d3c0cb8eca8e0a6e09d9aab20621bf10070543f311", func := "bigtop/bigtoplaw01.CanvasUpto", spec := "canvasUpto", unfollowed := true, recurses := true, apart := false }
def CanvasUptoSaid : Prop := canvasUptoRow.holds Try.pinned (OpenSpec.ofChange canvasUptoSpec)

/-- ITS FALSE NEIGHBOUR: 'it returns false'. Refute it at one input. -/
def canvasUptoWrong : ChangeSpec := { name := "canvasUpto", fn := fun _ => fun
  | [d1, d2, d3, d4, d5, d6] => { results := [.lit (.bool false)], args := [d1, d2, d3, d4, d5, d6] }
  | _ => none }
def CanvasUptoWrongFalsely : Prop := canvasUptoRow.holds Try.pinned (OpenSpec.ofChange canvasUptoWrong)

/-- 'bigtoplaw01.CanvasEither': WHATEVER THE INPUT: true; the input reads as it did. -/
def canvasEitherSpec : ChangeSpec := { name := "canvasEither", fn := fun _ => fun
  | [d1, d2, d3, d4, d5, d6] => { results := [.lit (.bool true)], args := [d1, d2, d3, d4, d5, d6] }
  | _ => none }
def canvasEitherRow : OpenClaim := { program := "ytdcjbbeoocldeaa", sum := "f91ff4d7a84dd285d80a36d3c0cb8eca8e0a6e09d9aab20621bf10070543f311", func := "bigtop/bigtoplaw01.CanvasEither", spec := "canvasEither", unfollowed := true, recurses := true, apart := false }
def CanvasEitherSaid : Prop := canvasEitherRow.holds Try.pinned (OpenSpec.ofChange canvasEitherSpec)

/-- ITS FALSE NEIGHBOUR: 'it returns false'. Refute it at one input. -/
def canvasEitherWrong : ChangeSpec := { name := "canvasEither", fn := fun _ => fun
  | [d1, d2, d3, d4, d5, d6] => { results := [.lit (.bool false)], args := [d1, d2, d3, d4, d5, d6] }
  | _ => none }
def CanvasEitherWrongFalsely : Prop := canvasEitherRow.holds Try.pinned (OpenSpec.ofChange canvasEitherWrong)

/-- 'bigtoplaw01.CanvasSpares': WHATEVER THE INPUT: true; the input reads as it did. -/
def canvasSparesSpec : ChangeSpec := { name := "canvasSpares", fn := fun _ => fun
  | [d1, d2, d3] => { results := [.lit (.bool true)], args := [d1, d2, d3] }
  | _ => none }
def canvasSparesRow : OpenClaim := { program := "ytdcjbbeoocldeaa", sum := "f91ff4d7a84dd285d80a36d3c0cb8eca8e0a6e09d9aab20621bf10070543f311", func := "bigtop/bigtoplaw01.CanvasSpares", spec := "canvasSpares", unfollowed := true, recurses := true, apart := false }
def CanvasSparesSaid : Prop := canvasSparesRow.holds Try.pinned (OpenSpec.ofChange canvasSparesSpec)

/-- ITS FALSE NEIGHBOUR: 'it returns false'. Refute it at one input. -/
def canvasSparesWrong : ChangeSpec := { name := "canvasSpares", fn := fun _ => fun
  | [d1, d2, d3] => { results := [.lit (.bool false)], args := [d1, d2, d3] }
  | _ => none }
def CanvasSparesWrongFalsely : Prop := canvasSparesRow.holds Try.pinned (OpenSpec.ofChange canvasSparesWrong)

/-- 'bigtoplaw01.CanvasBroken': WHATEVER THE INPUT: true; the input reads as it did. -/
def canvasBrokenSpec : ChangeSpec := { name := "canvasBroken", fn := fun _ => fun
  | [d1, d2, d3] => { results := [.lit (.bool true)], args := [d1, d2, d3] }
  | _ => none }
def canvasBrokenRow : OpenClaim := { program := "ytdcjbbeoocldeaa", sum := "f91ff4d7a84dd285d80a36d3c0cb8eca8e0a6e09d9aab20621bf10070543f311", func := "bigtop/bigtoplaw01.CanvasBroken", spec := "canvasBroken", unfollowed := true, recurses := true, apart := false }
def CanvasBrokenSaid : Prop := canvasBrokenRow.holds Try.pinned (OpenSpec.ofChange canvasBrokenSpec)

/-- ITS FALSE NEIGHBOUR: 'it returns false'. Refute it at one input. -/
def canvasBrokenWrong : ChangeSpec := { name := "canvasBroken", fn := fun _ => fun
  | [d1, d2, d3] => { results := [.lit (.bool false)], args := [d1, d2, d3] }
  | _ => none }
def CanvasBrokenWrongFalsely : Prop := canvasBrokenRow.holds Try.pinned (OpenSpec.ofChange canvasBrokenWrong)

/-- 'bigtoplaw01.CanvasNames': WHATEVER THE INPUT: true; the input reads as it did. -/
def canvasNamesSpec : ChangeSpec := { name := "canvasNames", fn := fun _ => fun
  | [] => { results := [.lit (.bool true)], args := [] }
  | _ => none }
def canvasNamesRow : OpenClaim := { program := "ytdcjbbeoocldeaa", sum := "f91ff4d7a84dd285d80a36d3c0cb8eca8e0a6e09d9aab20621bf10070543f311", func := "bigtop/bigtoplaw01.CanvasNames", spec := "canvasNames", unfollowed := true, recurses := true, apart := false }
def CanvasNamesSaid : Prop := canvasNamesRow.holds Try.pinned (OpenSpec.ofChange canvasNamesSpec)

/-- ITS FALSE NEIGHBOUR: 'it returns false'. Refute it at one input. -/
def canvasNamesWrong : ChangeSpec := { name := "canvasNames", fn := fun _ => fun
  | [] => { results := [.lit (.bool false)], args := [] }
  | _ => none }
def CanvasNamesWrongFalsely : Prop := canvasNamesRow.holds Try.pinned (OpenSpec.ofChange canvasNamesWrong)

/- THE SECOND FORM. 'bulk': how many values and letters a reading holds, each counted each time it is reached (what is shared counts as often as it is met; a slice's spare places count too). A statement '..UptoSaid' is the law's where the arguments, and the package variables that the reading takes, are together of bulk at most 1048576: NARROWER than '..Said'. Prove '..Said' where nothing that the law and all that it calls make is longer than what came in: it says more and counts as full. Else prove '..UptoSaid'. A law counts once. -/
mutual
def uptoBulk {H : Type} : DataW H → Nat
  | .lit (.string bytes) => bytes.length + 1
  | .lit _ => 1
  | .nil => 1
  | .ptr d => uptoBulk d + 1
  | .slice elems spare => uptoBulkAll elems + uptoBulkAll spare + 1
  | .agg parts => uptoBulkAll parts + 1
  | .iface _ d => uptoBulk d + 1
  | .map entries => uptoBulkEntries entries + 1
  | .held _ => 1
def uptoBulkAll {H : Type} : List (DataW H) → Nat
  | [] => 0
  | d :: r => uptoBulk d + uptoBulkAll r
def uptoBulkEntries {H : Type} : List (Lit × DataW H) → Nat
  | [] => 0
  | x :: r => uptoBulkEntry x + uptoBulkEntries r
def uptoBulkEntry {H : Type} : Lit × DataW H → Nat
  | (.string bytes, d) => bytes.length + uptoBulk d + 1
  | (_, d) => uptoBulk d + 1
 end
def uptoSmall : (H : Type) → List (DataW H) → Bool := fun _ ds => decide (uptoBulkAll ds ≤ 1048576)
def OpenSpec.upto (s : _root_.Go.ChangeSpec) : _root_.Go.OpenSpec := { _root_.Go.OpenSpec.ofChange s with cond := some uptoSmall }

/-- 'bigtoplaw01.CanvasBalances', WHERE WHAT IT READS IS OF BULK AT MOST 1048576: true; the input reads as it did. -/
def canvasBalancesUptoRow : OpenClaim := { program := "ytdcjbbeoocldeaa", sum := "f91ff4d7a84dd285d80a36d3c0cb8eca8e0a6e09d9aab20621bf10070543f311", func := "bigtop/bigtoplaw01.CanvasBalances", spec := "canvasBalances", unfollowed := true, recurses := true, apart := false, narrowed := true }
def CanvasBalancesUptoSaid : Prop := canvasBalancesUptoRow.holds Try.pinned (OpenSpec.upto canvasBalancesSpec)

/-- 'bigtoplaw01.CanvasReaches', WHERE WHAT IT READS IS OF BULK AT MOST 1048576: true; the input reads as it did. -/
def canvasReachesUptoRow : OpenClaim := { program := "ytdcjbbeoocldeaa", sum := "f91ff4d7a84dd285d80a36d3c0cb8eca8e0a6e09d9aab20621bf10070543f311", func := "bigtop/bigtoplaw01.CanvasReaches", spec := "canvasReaches", unfollowed := true, recurses := true, apart := false, narrowed := true }
def CanvasReachesUptoSaid : Prop := canvasReachesUptoRow.holds Try.pinned (OpenSpec.upto canvasReachesSpec)

/-- 'bigtoplaw01.CanvasProves', WHERE WHAT IT READS IS OF BULK AT MOST 1048576: true; the input reads as it did. -/
def canvasProvesUptoRow : OpenClaim := { program := "ytdcjbbeoocldeaa", sum := "f91ff4d7a84dd285d80a36d3c0cb8eca8e0a6e09d9aab20621bf10070543f311", func := "bigtop/bigtoplaw01.CanvasProves", spec := "canvasProves", unfollowed := true, recurses := true, apart := false, narrowed := true }
def CanvasProvesUptoSaid : Prop := canvasProvesUptoRow.holds Try.pinned (OpenSpec.upto canvasProvesSpec)

/-- 'bigtoplaw01.CanvasParts', WHERE WHAT IT READS IS OF BULK AT MOST 1048576: true; the input reads as it did. -/
def canvasPartsUptoRow : OpenClaim := { program := "ytdcjbbeoocldeaa", sum := "f91ff4d7a84dd285d80a36d3c0cb8eca8e0a6e09d9aab20621bf10070543f311", func := "bigtop/bigtoplaw01.CanvasParts", spec := "canvasParts", unfollowed := true, recurses := true, apart := false, narrowed := true }
def CanvasPartsUptoSaid : Prop := canvasPartsUptoRow.holds Try.pinned (OpenSpec.upto canvasPartsSpec)

/-- 'bigtoplaw01.CanvasWeakest', WHERE WHAT IT READS IS OF BULK AT MOST 1048576: true; the input reads as it did. -/
def canvasWeakestUptoRow : OpenClaim := { program := "ytdcjbbeoocldeaa", sum := "f91ff4d7a84dd285d80a36d3c0cb8eca8e0a6e09d9aab20621bf10070543f311", func := "bigtop/bigtoplaw01.CanvasWeakest", spec := "canvasWeakest", unfollowed := true, recurses := true, apart := false, narrowed := true }
def CanvasWeakestUptoSaid : Prop := canvasWeakestUptoRow.holds Try.pinned (OpenSpec.upto canvasWeakestSpec)

/-- 'bigtoplaw01.CanvasMeans', WHERE WHAT IT READS IS OF BULK AT MOST 1048576: true; the input reads as it did. -/
def canvasMeansUptoRow : OpenClaim := { program := "ytdcjbbeoocldeaa", sum := "f91ff4d7a84dd285d80a36d3c0cb8eca8e0a6e09d9aab20621bf10070543f311", func := "bigtop/bigtoplaw01.CanvasMeans", spec := "canvasMeans", unfollowed := true, recurses := true, apart := false, narrowed := true }
def CanvasMeansUptoSaid : Prop := canvasMeansUptoRow.holds Try.pinned (OpenSpec.upto canvasMeansSpec)

/-- 'bigtoplaw01.CanvasSafer', WHERE WHAT IT READS IS OF BULK AT MOST 1048576: true; the input reads as it did. -/
def canvasSaferUptoRow : OpenClaim := { program := "ytdcjbbeoocldeaa", sum := "f91ff4d7a84dd285d80a36d3c0cb8eca8e0a6e09d9aab20621bf10070543f311", func := "bigtop/bigtoplaw01.CanvasSafer", spec := "canvasSafer", unfollowed := true, recurses := true, apart := false, narrowed := true }
def CanvasSaferUptoSaid : Prop := canvasSaferUptoRow.holds Try.pinned (OpenSpec.upto canvasSaferSpec)

/-- 'bigtoplaw01.CanvasUpto', WHERE WHAT IT READS IS OF BULK AT MOST 1048576: true; the input reads as it did. -/
def canvasUptoUptoRow : OpenClaim := { program := "ytdcjbbeoocldeaa", sum := "f91ff4d7a84dd285d80a36d3c0cb8eca8e0a6e09d9aab20621bf10070543f311", func := "bigtop/bigtoplaw01.CanvasUpto", spec := "canvasUpto", unfollowed := true, recurses := true, apart := false, narrowed := true }
def CanvasUptoUptoSaid : Prop := canvasUptoUptoRow.holds Try.pinned (OpenSpec.upto canvasUptoSpec)

/-- 'bigtoplaw01.CanvasEither', WHERE WHAT IT READS IS OF BULK AT MOST 1048576: true; the input reads as it did. -/
def canvasEitherUptoRow : OpenClaim := { program := "ytdcjbbeoocldeaa", sum := "f91ff4d7a84dd285d80a36d3c0cb8eca8e0a6e09d9aab20621bf10070543f311", func := "bigtop/bigtoplaw01.CanvasEither", spec := "canvasEither", unfollowed := true, recurses := true, apart := false, narrowed := true }
def CanvasEitherUptoSaid : Prop := canvasEitherUptoRow.holds Try.pinned (OpenSpec.upto canvasEitherSpec)

/-- 'bigtoplaw01.CanvasSpares', WHERE WHAT IT READS IS OF BULK AT MOST 1048576: true; the input reads as it did. -/
def canvasSparesUptoRow : OpenClaim := { program := "ytdcjbbeoocldeaa", sum := "f91ff4d7a84dd285d80a36d3c0cb8eca8e0a6e09d9aab20621bf10070543f311", func := "bigtop/bigtoplaw01.CanvasSpares", spec := "canvasSpares", unfollowed := true, recurses := true, apart := false, narrowed := true }
def CanvasSparesUptoSaid : Prop := canvasSparesUptoRow.holds Try.pinned (OpenSpec.upto canvasSparesSpec)

/-- 'bigtoplaw01.CanvasBroken', WHERE WHAT IT READS IS OF BULK AT MOST 1048576: true; the input reads as it did. -/
def canvasBrokenUptoRow : OpenClaim := { program := "ytdcjbbeoocldeaa", sum := "f91ff4d7a84dd285d80a36d3c0cb8eca8e0a6e09d9aab20621bf10070543f311", func := "bigtop/bigtoplaw01.CanvasBroken", spec := "canvasBroken", unfollowed := true, recurses := true, apart := false, narrowed := true }
def CanvasBrokenUptoSaid : Prop := canvasBrokenUptoRow.holds Try.pinned (OpenSpec.upto canvasBrokenSpec)

/-- 'bigtoplaw01.CanvasNames', WHERE WHAT IT READS IS OF BULK AT MOST 1048576: true; the input reads as it did. -/
def canvasNamesUptoRow : OpenClaim := { program := "ytdcjbbeoocldeaa", sum := "f91ff4d7a84dd285d80a36d3c0cb8eca8e0a6e09d9aab20621bf10070543f311", func := "bigtop/bigtoplaw01.CanvasNames", spec := "canvasNames", unfollowed := true, recurses := true, apart := false, narrowed := true }
def CanvasNamesUptoSaid : Prop := canvasNamesUptoRow.holds Try.pinned (OpenSpec.upto canvasNamesSpec)

end Rows
end Go.Proofs.Ytdcjbbeoocldeaa
