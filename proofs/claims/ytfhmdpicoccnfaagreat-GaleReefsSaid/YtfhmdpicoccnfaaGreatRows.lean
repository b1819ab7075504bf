/-
  No cell of these rows narrows 'for every input' (looked for: loops, veiled, ifaces, maps, wideKeys, modest, calm, conditions, laid).
  DERIVED. THE GIVEN ROWS OF THIS SEAT. 3 by the template 'for every input the law returns true; each argument reads behind the call as it read before'; 0 by the template 'total and deterministic' (their statements: YtfhmdpicoccnfaaGreatTotals.lean).
  GIVEN WITH THE SEED: the statements are not yours to turn. If you find one false, say at which input.
  Laid BY PROGRAM, IN A SANDBOX (cutbox-rows.mjs): the forced cells as the released guide's own fill.sh prints them over the translation ab9635f1abb0031f… (all of the seat's roots in one cut). By AI agents, Wed Nov 11 2026. No macro, syntax, notation, axiom, sorry.
-/
import Derived.Test.YtfhmdpicoccnfaaGreatChecked
import GoSem.Claim
import GoSem.ClaimJoined
import GoSem.ClaimMapViews
import Derived.JoinedTies
import Derived.KernelRfl
namespace Go.Proofs.YtfhmdpicoccnfaaGreat
/- THE CELL 'sum', in the pinned program and in every row, IS THE sha256 OF THE DUMP (.gsa) THAT YtfhmdpicoccnfaaGreatProg.lean LOADS. Nothing in Lean hashes anything: it is a label: what it is worth is what the hold of that sum in a sandbox is worth. -/
noncomputable def Tryz.pinned : Pinned := { name := "ytfhmdpicoccnfaagreat", sum := "ab9635f1abb0031f092b37283d46c4e909f172b7c118c99c39e8941bd3e4f537", checked := Tryz.checked }
namespace Rows
def none {H : Type} : Left H := { results := [], args := [] }

/-- 'bigtoplaw02.GaleReefs': WHATEVER THE INPUT: true; the input reads as it did. -/
def galeReefsSpec : ChangeSpec := { name := "galeReefs", fn := fun _ => fun
  | [d1, d2, d3] => { results := [.lit (.bool true)], args := [d1, d2, d3] }
  | _ => none }
def galeReefsRow : OpenClaim := { program := "ytfhmdpicoccnfaagreat", sum := "ab9635f1abb0031f092b37283d46c4e909f172b7c118c99c39e8941bd3e4f537", func := "bigtop/bigtoplaw02.GaleReefs", spec := "galeReefs", unfollowed := true, recurses := true, plainKeys := false, apart := false }
def GaleReefsSaid : Prop := galeReefsRow.holds Tryz.pinned (OpenSpec.ofChange galeReefsSpec)

/-- ITS FALSE NEIGHBOUR: 'it returns false'. Refute it at one input. -/
def galeReefsWrong : ChangeSpec := { name := "galeReefs", fn := fun _ => fun
  | [d1, d2, d3] => { results := [.lit (.bool false)], args := [d1, d2, d3] }
  | _ => none }
def GaleReefsWrongFalsely : Prop := galeReefsRow.holds Tryz.pinned (OpenSpec.ofChange galeReefsWrong)

/-- 'bigtoplaw02.GaleLimits': WHATEVER THE INPUT: true; the input reads as it did. -/
def galeLimitsSpec : ChangeSpec := { name := "galeLimits", fn := fun _ => fun
  | [d1, d2, d3, d4] => { results := [.lit (.bool true)], args := [d1, d2, d3, d4] }
  | _ => none }
def galeLimitsRow : OpenClaim := { program := "ytfhmdpicoccnfaagreat", sum := "ab9635f1abb0031f092b37283d46c4e909f172b7c118c99c39e8941bd3e4f537", func := "bigtop/bigtoplaw02.GaleLimits", spec := "galeLimits", unfollowed := true, recurses := true, plainKeys := false, apart := false }
def GaleLimitsSaid : Prop := galeLimitsRow.holds Tryz.pinned (OpenSpec.ofChange galeLimitsSpec)

/-- ITS FALSE NEIGHBOUR: 'it returns false'. Refute it at one input. -/
def galeLimitsWrong : ChangeSpec := { name := "galeLimits", fn := fun _ => fun
  | [d1, d2, d3, d4] => { results := [.lit (.bool false)], args := [d1, d2, d3, d4] }
  | _ => none }
def GaleLimitsWrongFalsely : Prop := galeLimitsRow.holds Tryz.pinned (OpenSpec.ofChange galeLimitsWrong)

/-- 'bigtoplaw02.GaleNames': WHATEVER THE INPUT: true; the input reads as it did. -/
def galeNamesSpec : ChangeSpec := { name := "galeNames", fn := fun _ => fun
  | [] => { results := [.lit (.bool true)], args := [] }
  | _ => none }
def galeNamesRow : OpenClaim := { program := "ytfhmdpicoccnfaagreat", sum := "ab9635f1abb0031f092b37283d46c4e909f172b7c118c99c39e8941bd3e4f537", func := "bigtop/bigtoplaw02.GaleNames", spec := "galeNames", unfollowed := true, recurses := true, plainKeys := false, apart := false }
def GaleNamesSaid : Prop := galeNamesRow.holds Tryz.pinned (OpenSpec.ofChange galeNamesSpec)

/-- ITS FALSE NEIGHBOUR: 'it returns false'. Refute it at one input. -/
def galeNamesWrong : ChangeSpec := { name := "galeNames", fn := fun _ => fun
  | [] => { results := [.lit (.bool false)], args := [] }
  | _ => none }
def GaleNamesWrongFalsely : Prop := galeNamesRow.holds Tryz.pinned (OpenSpec.ofChange galeNamesWrong)

/- THE SECOND FORM. 'bulk': how many values and letters a reading holds, each counted each time it is reached (what is shared counts as often as it is met; a slice's spare places count too). A statement '..UptoSaid' is the law's where the arguments, and the package variables that the reading takes, are together of bulk at most 1048576: NARROWER than '..Said'. Prove '..Said' where nothing that the law and all that it calls make is longer than what came in: it says more and counts as full. Else prove '..UptoSaid'. A law counts once. -/
mutual
def uptoBulk {H : Type} : DataW H → Nat
  | .lit (.string bytes) => bytes.length + 1
  | .lit _ => 1
  | .nil => 1
  | .ptr d => uptoBulk d + 1
  | .slice elems spare => uptoBulkAll elems + uptoBulkAll spare + 1
  | .agg parts => uptoBulkAll parts + 1
  | .iface _ d => uptoBulk d + 1
  | .map entries => uptoBulkEntries entries + 1
  | .held _ => 1
def uptoBulkAll {H : Type} : List (DataW H) → Nat
  | [] => 0
  | d :: r => uptoBulk d + uptoBulkAll r
def uptoBulkEntries {H : Type} : List (Lit × DataW H) → Nat
  | [] => 0
  | x :: r => uptoBulkEntry x + uptoBulkEntries r
def uptoBulkEntry {H : Type} : Lit × DataW H → Nat
  | (.string bytes, d) => bytes.length + uptoBulk d + 1
  | (_, d) => uptoBulk d + 1
 end
def uptoSmall : (H : Type) → List (DataW H) → Bool := fun _ ds => decide (uptoBulkAll ds ≤ 1048576)
def OpenSpec.upto (s : _root_.Go.ChangeSpec) : _root_.Go.OpenSpec := { _root_.Go.OpenSpec.ofChange s with cond := some uptoSmall }

/-- 'bigtoplaw02.GaleReefs', WHERE WHAT IT READS IS OF BULK AT MOST 1048576: true; the input reads as it did. -/
def galeReefsUptoRow : OpenClaim := { program := "ytfhmdpicoccnfaagreat", sum := "ab9635f1abb0031f092b37283d46c4e909f172b7c118c99c39e8941bd3e4f537", func := "bigtop/bigtoplaw02.GaleReefs", spec := "galeReefs", unfollowed := true, recurses := true, plainKeys := false, apart := false, narrowed := true }
def GaleReefsUptoSaid : Prop := galeReefsUptoRow.holds Tryz.pinned (OpenSpec.upto galeReefsSpec)

/-- 'bigtoplaw02.GaleLimits', WHERE WHAT IT READS IS OF BULK AT MOST 1048576: true; the input reads as it did. -/
def galeLimitsUptoRow : OpenClaim := { program := "ytfhmdpicoccnfaagreat", sum := "ab9635f1abb0031f092b37283d46c4e909f172b7c118c99c39e8941bd3e4f537", func := "bigtop/bigtoplaw02.GaleLimits", spec := "galeLimits", unfollowed := true, recurses := true, plainKeys := false, apart := false, narrowed := true }
def GaleLimitsUptoSaid : Prop := galeLimitsUptoRow.holds Tryz.pinned (OpenSpec.upto galeLimitsSpec)

/-- 'bigtoplaw02.GaleNames', WHERE WHAT IT READS IS OF BULK AT MOST 1048576: true; the input reads as it did. -/
def galeNamesUptoRow : OpenClaim := { program := "ytfhmdpicoccnfaagreat", sum := "ab9635f1abb0031f092b37283d46c4e909f172b7c118c99c39e8941bd3e4f537", func := "bigtop/bigtoplaw02.GaleNames", spec := "galeNames", unfollowed := true, recurses := true, plainKeys := false, apart := false, narrowed := true }
def GaleNamesUptoSaid : Prop := galeNamesUptoRow.holds Tryz.pinned (OpenSpec.upto galeNamesSpec)

end Rows
end Go.Proofs.YtfhmdpicoccnfaaGreat
