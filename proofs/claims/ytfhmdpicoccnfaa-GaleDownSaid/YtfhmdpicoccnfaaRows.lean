/-
  No cell of these rows narrows 'for every input' (looked for: loops, veiled, ifaces, maps, wideKeys, modest, calm, conditions, laid).
  DERIVED. THE GIVEN ROWS OF THIS SEAT. 10 by the template 'for every input the law returns true; each argument reads behind the call as it read before'; 0 by the template 'total and deterministic' (their statements: YtfhmdpicoccnfaaTotals.lean).
  GIVEN WITH THE SEED: the statements are not yours to turn. If you find one false, say at which input.
  Laid BY PROGRAM, IN A SANDBOX (cutbox-rows.mjs): the forced cells as the released guide's own fill.sh prints them over the translation 2ed4817875946697… (all of the seat's roots in one cut). By AI agents, Wed Nov 11 2026. No macro, syntax, notation, axiom, sorry.
-/
import Derived.Test.YtfhmdpicoccnfaaChecked
import GoSem.Claim
import GoSem.ClaimJoined
import GoSem.ClaimMapViews
import Derived.JoinedTies
import Derived.KernelRfl
namespace Go.Proofs.Ytfhmdpicoccnfaa
/- THE CELL 'sum', in the pinned program and in every row, IS THE sha256 OF THE DUMP (.gsa) THAT YtfhmdpicoccnfaaProg.lean LOADS. Nothing in Lean hashes anything: it is a label: what it is worth is what the hold of that sum in a sandbox is worth. -/
noncomputable def Try.pinned : Pinned := { name := "ytfhmdpicoccnfaa", sum := "2ed4817875946697c6948c2484f8c3b97f1ed763bed01ce660595d330f0d0c0e", checked := Try.checked }
namespace Rows
def none {H : Type} : Left H := { results := [], args := [] }

/-- 'bigtoplaw02.GaleStrikes': WHATEVER THE INPUT: true; the input reads as it did. -/
def galeStrikesSpec : ChangeSpec := { name := "galeStrikes", fn := fun _ => fun
  | [d1, d2] => { results := [.lit (.bool true)], args := [d1, d2] }
  | _ => none }
def galeStrikesRow : OpenClaim := { program := "ytfhmdpicoccnfaa", sum := "2ed4817875946697c6948c2484f8c3b97f1ed763bed01ce660595d330f0d0c0e", func := "bigtop/bigtoplaw02.GaleStrikes", spec := "galeStrikes", unfollowed := true, recurses := true, plainKeys := false, apart := false }
def GaleStrikesSaid : Prop := galeStrikesRow.holds Try.pinned (OpenSpec.ofChange galeStrikesSpec)

/-- ITS FALSE NEIGHBOUR: 'it returns false'. Refute it at one input. -/
def galeStrikesWrong : ChangeSpec := { name := "galeStrikes", fn := fun _ => fun
  | [d1, d2] => { results := [.lit (.bool false)], args := [d1, d2] }
  | _ => none }
def GaleStrikesWrongFalsely : Prop := galeStrikesRow.holds Try.pinned (OpenSpec.ofChange galeStrikesWrong)

/-- 'bigtoplaw02.GalePlans': WHATEVER THE INPUT: true; the input reads as it did. -/
def galePlansSpec : ChangeSpec := { name := "galePlans", fn := fun _ => fun
  | [d1, d2, d3, d4, d5] => { results := [.lit (.bool true)], args := [d1, d2, d3, d4, d5] }
  | _ => none }
def galePlansRow : OpenClaim := { program := "ytfhmdpicoccnfaa", sum := "2ed4817875946697c6948c2484f8c3b97f1ed763bed01ce660595d330f0d0c0e", func := "bigtop/bigtoplaw02.GalePlans", spec := "galePlans", unfollowed := true, recurses := true, plainKeys := false, apart := false }
def GalePlansSaid : Prop := galePlansRow.holds Try.pinned (OpenSpec.ofChange galePlansSpec)

/-- ITS FALSE NEIGHBOUR: 'it returns false'. Refute it at one input. -/
def galePlansWrong : ChangeSpec := { name := "galePlans", fn := fun _ => fun
  | [d1, d2, d3, d4, d5] => { results := [.lit (.bool false)], args := [d1, d2, d3, d4, d5] }
  | _ => none }
def GalePlansWrongFalsely : Prop := galePlansRow.holds Try.pinned (OpenSpec.ofChange galePlansWrong)

/-- 'bigtoplaw02.GaleStuck': WHATEVER THE INPUT: true; the input reads as it did. -/
def galeStuckSpec : ChangeSpec := { name := "galeStuck", fn := fun _ => fun
  | [d1, d2] => { results := [.lit (.bool true)], args := [d1, d2] }
  | _ => none }
def galeStuckRow : OpenClaim := { program := "ytfhmdpicoccnfaa", sum := "2ed4817875946697c6948c2484f8c3b97f1ed763bed01ce660595d330f0d0c0e", func := "bigtop/bigtoplaw02.GaleStuck", spec := "galeStuck", unfollowed := true, recurses := true, plainKeys := false, apart := false }
def GaleStuckSaid : Prop := galeStuckRow.holds Try.pinned (OpenSpec.ofChange galeStuckSpec)

/-- ITS FALSE NEIGHBOUR: 'it returns false'. Refute it at one input. -/
def galeStuckWrong : ChangeSpec := { name := "galeStuck", fn := fun _ => fun
  | [d1, d2] => { results := [.lit (.bool false)], args := [d1, d2] }
  | _ => none }
def GaleStuckWrongFalsely : Prop := galeStuckRow.holds Try.pinned (OpenSpec.ofChange galeStuckWrong)

/-- 'bigtoplaw02.GaleProves': WHATEVER THE INPUT: true; the input reads as it did. -/
def galeProvesSpec : ChangeSpec := { name := "galeProves", fn := fun _ => fun
  | [d1, d2, d3, d4, d5, d6, d7, d8] => { results := [.lit (.bool true)], args := [d1, d2, d3, d4, d5, d6, d7, d8] }
  | _ => none }
def galeProvesRow : OpenClaim := { program := "ytfhmdpicoccnfaa", sum := "2ed4817875946697c6948c2484f8c3b97f1ed763bed01ce660595d330f0d0c0e", func := "bigtop/bigtoplaw02.GaleProves", spec := "galeProves", unfollowed := true, recurses := true, plainKeys := false, apart := false }
def GaleProvesSaid : Prop := galeProvesRow.holds Try.pinned (OpenSpec.ofChange galeProvesSpec)

/-- ITS FALSE NEIGHBOUR: 'it returns false'. Refute it at one input. -/
def galeProvesWrong : ChangeSpec := { name := "galeProves", fn := fun _ => fun
  | [d1, d2, d3, d4, d5, d6, d7, d8] => { results := [.lit (.bool false)], args := [d1, d2, d3, d4, d5, d6, d7, d8] }
  | _ => none }
def GaleProvesWrongFalsely : Prop := galeProvesRow.holds Try.pinned (OpenSpec.ofChange galeProvesWrong)

/-- 'bigtoplaw02.GaleKept': WHATEVER THE INPUT: true; the input reads as it did. -/
def galeKeptSpec : ChangeSpec := { name := "galeKept", fn := fun _ => fun
  | [d1, d2, d3, d4] => { results := [.lit (.bool true)], args := [d1, d2, d3, d4] }
  | _ => none }
def galeKeptRow : OpenClaim := { program := "ytfhmdpicoccnfaa", sum := "2ed4817875946697c6948c2484f8c3b97f1ed763bed01ce660595d330f0d0c0e", func := "bigtop/bigtoplaw02.GaleKept", spec := "galeKept", unfollowed := true, recurses := true, plainKeys := false, apart := false }
def GaleKeptSaid : Prop := galeKeptRow.holds Try.pinned (OpenSpec.ofChange galeKeptSpec)

/-- ITS FALSE NEIGHBOUR: 'it returns false'. Refute it at one input. -/
def galeKeptWrong : ChangeSpec := { name := "galeKept", fn := fun _ => fun
  | [d1, d2, d3, d4] => { results := [.lit (.bool false)], args := [d1, d2, d3, d4] }
  | _ => none }
def GaleKeptWrongFalsely : Prop := galeKeptRow.holds Try.pinned (OpenSpec.ofChange galeKeptWrong)

/-- 'bigtoplaw02.GaleDown': WHATEVER THE INPUT: true; the input reads as it did. -/
def galeDownSpec : ChangeSpec := { name := "galeDown", fn := fun _ => fun
  | [d1, d2, d3, d4, d5] => { results := [.lit (.bool true)], args := [d1, d2, d3, d4, d5] }
  | _ => none }
def galeDownRow : OpenClaim := { program := "ytfhmdpicoccnfaa", sum := "2ed4817875946697c6948c2484f8c3b97f1ed763bed01ce660595d330f0d0c0e", func := "bigtop/bigtoplaw02.GaleDown", spec := "galeDown", unfollowed := true, recurses := true, plainKeys := false, apart := false }
def GaleDownSaid : Prop := galeDownRow.holds Try.pinned (OpenSpec.ofChange galeDownSpec)

/-- ITS FALSE NEIGHBOUR: 'it returns false'. Refute it at one input. -/
def galeDownWrong : ChangeSpec := { name := "galeDown", fn := fun _ => fun
  | [d1, d2, d3, d4, d5] => { results := [.lit (.bool false)], args := [d1, d2, d3, d4, d5] }
  | _ => none }
def GaleDownWrongFalsely : Prop := galeDownRow.holds Try.pinned (OpenSpec.ofChange galeDownWrong)

/-- 'bigtoplaw02.GaleEither': WHATEVER THE INPUT: true; the input reads as it did. -/
def galeEitherSpec : ChangeSpec := { name := "galeEither", fn := fun _ => fun
  | [d1, d2, d3, d4] => { results := [.lit (.bool true)], args := [d1, d2, d3, d4] }
  | _ => none }
def galeEitherRow : OpenClaim := { program := "ytfhmdpicoccnfaa", sum := "2ed4817875946697c6948c2484f8c3b97f1ed763bed01ce660595d330f0d0c0e", func := "bigtop/bigtoplaw02.GaleEither", spec := "galeEither", unfollowed := true, recurses := true, plainKeys := false, apart := false }
def GaleEitherSaid : Prop := galeEitherRow.holds Try.pinned (OpenSpec.ofChange galeEitherSpec)

/-- ITS FALSE NEIGHBOUR: 'it returns false'. Refute it at one input. -/
def galeEitherWrong : ChangeSpec := { name := "galeEither", fn := fun _ => fun
  | [d1, d2, d3, d4] => { results := [.lit (.bool false)], args := [d1, d2, d3, d4] }
  | _ => none }
def GaleEitherWrongFalsely : Prop := galeEitherRow.holds Try.pinned (OpenSpec.ofChange galeEitherWrong)

/-- 'bigtoplaw02.GaleLeast': WHATEVER THE INPUT: true; the input reads as it did. -/
def galeLeastSpec : ChangeSpec := { name := "galeLeast", fn := fun _ => fun
  | [d] => { results := [.lit (.bool true)], args := [d] }
  | _ => none }
def galeLeastRow : OpenClaim := { program := "ytfhmdpicoccnfaa", sum := "2ed4817875946697c6948c2484f8c3b97f1ed763bed01ce660595d330f0d0c0e", func := "bigtop/bigtoplaw02.GaleLeast", spec := "galeLeast", unfollowed := true, recurses := true, plainKeys := false, apart := false }
def GaleLeastSaid : Prop := galeLeastRow.holds Try.pinned (OpenSpec.ofChange galeLeastSpec)

/-- ITS FALSE NEIGHBOUR: 'it returns false'. Refute it at one input. -/
def galeLeastWrong : ChangeSpec := { name := "galeLeast", fn := fun _ => fun
  | [d] => { results := [.lit (.bool false)], args := [d] }
  | _ => none }
def GaleLeastWrongFalsely : Prop := galeLeastRow.holds Try.pinned (OpenSpec.ofChange galeLeastWrong)

/-- 'bigtoplaw02.GaleWider': WHATEVER THE INPUT: true; the input reads as it did. -/
def galeWiderSpec : ChangeSpec := { name := "galeWider", fn := fun _ => fun
  | [d1, d2, d3, d4, d5] => { results := [.lit (.bool true)], args := [d1, d2, d3, d4, d5] }
  | _ => none }
def galeWiderRow : OpenClaim := { program := "ytfhmdpicoccnfaa", sum := "2ed4817875946697c6948c2484f8c3b97f1ed763bed01ce660595d330f0d0c0e", func := "bigtop/bigtoplaw02.GaleWider", spec := "galeWider", unfollowed := true, recurses := true, plainKeys := false, apart := false }
def GaleWiderSaid : Prop := galeWiderRow.holds Try.pinned (OpenSpec.ofChange galeWiderSpec)

/-- ITS FALSE NEIGHBOUR: 'it returns false'. Refute it at one input. -/
def galeWiderWrong : ChangeSpec := { name := "galeWider", fn := fun _ => fun
  | [d1, d2, d3, d4, d5] => { results := [.lit (.bool false)], args := [d1, d2, d3, d4, d5] }
  | _ => none }
def GaleWiderWrongFalsely : Prop := galeWiderRow.holds Try.pinned (OpenSpec.ofChange galeWiderWrong)

/-- 'bigtoplaw02.GaleLeaves': WHATEVER THE INPUT: true; the input reads as it did. -/
def galeLeavesSpec : ChangeSpec := { name := "galeLeaves", fn := fun _ => fun
  | [d] => { results := [.lit (.bool true)], args := [d] }
  | _ => none }
def galeLeavesRow : OpenClaim := { program := "ytfhmdpicoccnfaa", sum := "2ed4817875946697c6948c2484f8c3b97f1ed763bed01ce660595d330f0d0c0e", func := "bigtop/bigtoplaw02.GaleLeaves", spec := "galeLeaves", unfollowed := true, recurses := true, plainKeys := false, apart := false }
def GaleLeavesSaid : Prop := galeLeavesRow.holds Try.pinned (OpenSpec.ofChange galeLeavesSpec)

/-- ITS FALSE NEIGHBOUR: 'it returns false'. Refute it at one input. -/
def galeLeavesWrong : ChangeSpec := { name := "galeLeaves", fn := fun _ => fun
  | [d] => { results := [.lit (.bool false)], args := [d] }
  | _ => none }
def GaleLeavesWrongFalsely : Prop := galeLeavesRow.holds Try.pinned (OpenSpec.ofChange galeLeavesWrong)

/- THE SECOND FORM. 'bulk': how many values and letters a reading holds, each counted each time it is reached (what is shared counts as often as it is met; a slice's spare places count too). A statement '..UptoSaid' is the law's where the arguments, and the package variables that the reading takes, are together of bulk at most 1048576: NARROWER than '..Said'. Prove '..Said' where nothing that the law and all that it calls make is longer than what came in: it says more and counts as full. Else prove '..UptoSaid'. A law counts once. -/
mutual
def uptoBulk {H : Type} : DataW H → Nat
  | .lit (.string bytes) => bytes.length + 1
  | .lit _ => 1
  | .nil => 1
  | .ptr d => uptoBulk d + 1
  | .slice elems spare => uptoBulkAll elems + uptoBulkAll spare + 1
  | .agg parts => uptoBulkAll parts + 1
  | .iface _ d => uptoBulk d + 1
  | .map entries => uptoBulkEntries entries + 1
  | .held _ => 1
def uptoBulkAll {H : Type} : List (DataW H) → Nat
  | [] => 0
  | d :: r => uptoBulk d + uptoBulkAll r
def uptoBulkEntries {H : Type} : List (Lit × DataW H) → Nat
  | [] => 0
  | x :: r => uptoBulkEntry x + uptoBulkEntries r
def uptoBulkEntry {H : Type} : Lit × DataW H → Nat
  | (.string bytes, d) => bytes.length + uptoBulk d + 1
  | (_, d) => uptoBulk d + 1
 end
def uptoSmall : (H : Type) → List (DataW H) → Bool := fun _ ds => decide (uptoBulkAll ds ≤ 1048576)
def OpenSpec.upto (s : _root_.Go.ChangeSpec) : _root_.Go.OpenSpec := { _root_.Go.OpenSpec.ofChange s with cond := some uptoSmall }

/-- 'bigtoplaw02.GaleStrikes', WHERE WHAT IT READS IS OF BULK AT MOST 1048576: true; the input reads as it did. -/
def galeStrikesUptoRow : OpenClaim := { program := "ytfhmdpicoccnfaa", sum := "2ed4817875946697c6948c2484f8c3b97f1ed763bed01ce660595d330f0d0c0e", func := "bigtop/bigtoplaw02.GaleStrikes", spec := "galeStrikes", unfollowed := true, recurses := true, plainKeys := false, apart := false, narrowed := true }
def GaleStrikesUptoSaid : Prop := galeStrikesUptoRow.holds Try.pinned (OpenSpec.upto galeStrikesSpec)

/-- 'bigtoplaw02.GalePlans', WHERE WHAT IT READS IS OF BULK AT MOST 1048576: true; the input reads as it did. -/
def galePlansUptoRow : OpenClaim := { program := "ytfhmdpicoccnfaa", sum := "2ed4817875946697c6948c2484f8c3b97f1ed763bed01ce660595d330f0d0c0e", func := "bigtop/bigtoplaw02.GalePlans", spec := "galePlans", unfollowed := true, recurses := true, plainKeys := false, apart := false, narrowed := true }
def GalePlansUptoSaid : Prop := galePlansUptoRow.holds Try.pinned (OpenSpec.upto galePlansSpec)

/-- 'bigtoplaw02.GaleStuck', WHERE WHAT IT READS IS OF BULK AT MOST 1048576: true; the input reads as it did. -/
def galeStuckUptoRow : OpenClaim := { program := "ytfhmdpicoccnfaa", sum := "2ed4817875946697c6948c2484f8c3b97f1ed763bed01ce660595d330f0d0c0e", func := "bigtop/bigtoplaw02.GaleStuck", spec := "galeStuck", unfollowed := true, recurses := true, plainKeys := false, apart := false, narrowed := true }
def GaleStuckUptoSaid : Prop := galeStuckUptoRow.holds Try.pinned (OpenSpec.upto galeStuckSpec)

/-- 'bigtoplaw02.GaleProves', WHERE WHAT IT READS IS OF BULK AT MOST 1048576: true; the input reads as it did. -/
def galeProvesUptoRow : OpenClaim := { program := "ytfhmdpicoccnfaa", sum := "2ed4817875946697c6948c2484f8c3b97f1ed763bed01ce660595d330f0d0c0e", func := "bigtop/bigtoplaw02.GaleProves", spec := "galeProves", unfollowed := true, recurses := true, plainKeys := false, apart := false, narrowed := true }
def GaleProvesUptoSaid : Prop := galeProvesUptoRow.holds Try.pinned (OpenSpec.upto galeProvesSpec)

/-- 'bigtoplaw02.GaleKept', WHERE WHAT IT READS IS OF BULK AT MOST 1048576: true; the input reads as it did. -/
def galeKeptUptoRow : OpenClaim := { program := "ytfhmdpicoccnfaa", sum := "2ed4817875946697c6948c2484f8c3b97f1ed763bed01ce660595d330f0d0c0e", func := "bigtop/bigtoplaw02.GaleKept", spec := "galeKept", unfollowed := true, recurses := true, plainKeys := false, apart := false, narrowed := true }
def GaleKeptUptoSaid : Prop := galeKeptUptoRow.holds Try.pinned (OpenSpec.upto galeKeptSpec)

/-- 'bigtoplaw02.GaleDown', WHERE WHAT IT READS IS OF BULK AT MOST 1048576: true; the input reads as it did. -/
def galeDownUptoRow : OpenClaim := { program := "ytfhmdpicoccnfaa", sum := "2ed4817875946697c6948c2484f8c3b97f1ed763bed01ce660595d330f0d0c0e", func := "bigtop/bigtoplaw02.GaleDown", spec := "galeDown", unfollowed := true, recurses := true, plainKeys := false, apart := false, narrowed := true }
def GaleDownUptoSaid : Prop := galeDownUptoRow.holds Try.pinned (OpenSpec.upto galeDownSpec)

/-- 'bigtoplaw02.GaleEither', WHERE WHAT IT READS IS OF BULK AT MOST 1048576: true; the input reads as it did. -/
def galeEitherUptoRow : OpenClaim := { program := "ytfhmdpicoccnfaa", sum := "2ed4817875946697c6948c2484f8c3b97f1ed763bed01ce660595d330f0d0c0e", func := "bigtop/bigtoplaw02.GaleEither", spec := "galeEither", unfollowed := true, recurses := true, plainKeys := false, apart := false, narrowed := true }
def GaleEitherUptoSaid : Prop := galeEitherUptoRow.holds Try.pinned (OpenSpec.upto galeEitherSpec)

/-- 'bigtoplaw02.GaleLeast', WHERE WHAT IT READS IS OF BULK AT MOST 1048576: true; the input reads as it did. -/
def galeLeastUptoRow : OpenClaim := { program := "ytfhmdpicoccnfaa", sum := "2ed4817875946697c6948c2484f8c3b97f1ed763bed01ce660595d330f0d0c0e", func := "bigtop/bigtoplaw02.GaleLeast", spec := "galeLeast", unfollowed := true, recurses := true, plainKeys := false, apart := false, narrowed := true }
def GaleLeastUptoSaid : Prop := galeLeastUptoRow.holds Try.pinned (OpenSpec.upto galeLeastSpec)

/-- 'bigtoplaw02.GaleWider', WHERE WHAT IT READS IS OF BULK AT MOST 1048576: true; the input reads as it did. -/
def galeWiderUptoRow : OpenClaim := { program := "ytfhmdpicoccnfaa", sum := "2ed4817875946697c6948c2484f8c3b97f1ed763bed01ce660595d330f0d0c0e", func := "bigtop/bigtoplaw02.GaleWider", spec := "galeWider", unfollowed := true, recurses := true, plainKeys := false, apart := false, narrowed := true }
def GaleWiderUptoSaid : Prop := galeWiderUptoRow.holds Try.pinned (OpenSpec.upto galeWiderSpec)

/-- 'bigtoplaw02.GaleLeaves', WHERE WHAT IT READS IS OF BULK AT MOST 1048576: true; the input reads as it did. -/
def galeLeavesUptoRow : OpenClaim := { program := "ytfhmdpicoccnfaa", sum := "2ed4817875946697c6948c2484f8c3b97f1ed763bed01ce660595d330f0d0c0e", func := "bigtop/bigtoplaw02.GaleLeaves", spec := "galeLeaves", unfollowed := true, recurses := true, plainKeys := false, apart := false, narrowed := true }
def GaleLeavesUptoSaid : Prop := galeLeavesUptoRow.holds Try.pinned (OpenSpec.upto galeLeavesSpec)

end Rows
end Go.Proofs.Ytfhmdpicoccnfaa
