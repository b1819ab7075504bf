/-
  No cell of these rows narrows 'for every input' (looked for: loops, veiled, ifaces, maps, wideKeys, modest, calm, conditions, laid).
  DERIVED. THE GIVEN ROWS OF THIS SEAT. 5 by the template 'for every input the law returns true; each argument reads behind the call as it read before'; 0 by the template 'total and deterministic' (their statements: YtgpiieogiafdoaaGreatTotals.lean).
  GIVEN WITH THE SEED: the statements are not yours to turn. If you find one false, say at which input.
  Laid BY PROGRAM, IN A SANDBOX (cutbox-rows.mjs): the forced cells as the released guide's own fill.sh prints them over the translation 6476d617d4e64718… (all of the seat's roots in one cut). By AI agents, Wed Nov 11 2026. No macro, syntax, notation, axiom, sorry.
-/
import Derived.Test.YtgpiieogiafdoaaGreatChecked
import GoSem.Claim
import GoSem.ClaimJoined
import GoSem.ClaimMapViews
import Derived.JoinedTies
import Derived.KernelRfl
namespace Go.Proofs.YtgpiieogiafdoaaGreat
/- THE CELL 'sum', in the pinned program and in every row, IS THE sha256 OF THE DUMP (.gsa) THAT YtgpiieogiafdoaaGreatProg.lean LOADS. Nothing in Lean hashes anything: it is a label: what it is worth is what the hold of that sum in a sandbox is worth. -/
noncomputable def Tryz.pinned : Pinned := { name := "ytgpiieogiafdoaagreat", sum := "6476d617d4e647181572183da53b6a4834a741e8187735a67d77dc341cbed504", checked := Tryz.checked }
namespace Rows
def none {H : Type} : Left H := { results := [], args := [] }

/-- 'bigtoplaw08.TicketRuns': WHATEVER THE INPUT: true; the input reads as it did. -/
def ticketRunsSpec : ChangeSpec := { name := "ticketRuns", fn := fun _ => fun
  | [d1, d2] => { results := [.lit (.bool true)], args := [d1, d2] }
  | _ => none }
def ticketRunsRow : OpenClaim := { program := "ytgpiieogiafdoaagreat", sum := "6476d617d4e647181572183da53b6a4834a741e8187735a67d77dc341cbed504", func := "bigtop/bigtoplaw08.TicketRuns", spec := "ticketRuns", unfollowed := true, recurses := true, plainKeys := false, apart := false }
def TicketRunsSaid : Prop := ticketRunsRow.holds Tryz.pinned (OpenSpec.ofChange ticketRunsSpec)

/-- ITS FALSE NEIGHBOUR: 'it returns false'. Refute it at one input. -/
def ticketRunsWrong : ChangeSpec := { name := "ticketRuns", fn := fun _ => fun
  | [d1, d2] => { results := [.lit (.bool false)], args := [d1, d2] }
  | _ => none }
def TicketRunsWrongFalsely : Prop := ticketRunsRow.holds Tryz.pinned (OpenSpec.ofChange ticketRunsWrong)

/-- 'bigtoplaw08.TicketWorlds': WHATEVER THE INPUT: true; the input reads as it did. -/
def ticketWorldsSpec : ChangeSpec := { name := "ticketWorlds", fn := fun _ => fun
  | [d1, d2, d3, d4, d5, d6, d7, d8] => { results := [.lit (.bool true)], args := [d1, d2, d3, d4, d5, d6, d7, d8] }
  | _ => none }
def ticketWorldsRow : OpenClaim := { program := "ytgpiieogiafdoaagreat", sum := "6476d617d4e647181572183da53b6a4834a741e8187735a67d77dc341cbed504", func := "bigtop/bigtoplaw08.TicketWorlds", spec := "ticketWorlds", unfollowed := true, recurses := true, plainKeys := false, apart := false }
def TicketWorldsSaid : Prop := ticketWorldsRow.holds Tryz.pinned (OpenSpec.ofChange ticketWorldsSpec)

/-- ITS FALSE NEIGHBOUR: 'it returns false'. Refute it at one input. -/
def ticketWorldsWrong : ChangeSpec := { name := "ticketWorlds", fn := fun _ => fun
  | [d1, d2, d3, d4, d5, d6, d7, d8] => { results := [.lit (.bool false)], args := [d1, d2, d3, d4, d5, d6, d7, d8] }
  | _ => none }
def TicketWorldsWrongFalsely : Prop := ticketWorldsRow.holds Tryz.pinned (OpenSpec.ofChange ticketWorldsWrong)

/-- 'bigtoplaw08.TicketAll': WHATEVER THE INPUT: true; the input reads as it did. -/
def ticketAllSpec : ChangeSpec := { name := "ticketAll", fn := fun _ => fun
  | [d1, d2] => { results := [.lit (.bool true)], args := [d1, d2] }
  | _ => none }
def ticketAllRow : OpenClaim := { program := "ytgpiieogiafdoaagreat", sum := "6476d617d4e647181572183da53b6a4834a741e8187735a67d77dc341cbed504", func := "bigtop/bigtoplaw08.TicketAll", spec := "ticketAll", unfollowed := true, recurses := true, plainKeys := false, apart := false }
def TicketAllSaid : Prop := ticketAllRow.holds Tryz.pinned (OpenSpec.ofChange ticketAllSpec)

/-- ITS FALSE NEIGHBOUR: 'it returns false'. Refute it at one input. -/
def ticketAllWrong : ChangeSpec := { name := "ticketAll", fn := fun _ => fun
  | [d1, d2] => { results := [.lit (.bool false)], args := [d1, d2] }
  | _ => none }
def TicketAllWrongFalsely : Prop := ticketAllRow.holds Tryz.pinned (OpenSpec.ofChange ticketAllWrong)

/-- 'bigtoplaw08.TicketOne': WHATEVER THE INPUT: true; the input reads as it did. -/
def ticketOneSpec : ChangeSpec := { name := "ticketOne", fn := fun _ => fun
  | [d1, d2] => { results := [.lit (.bool true)], args := [d1, d2] }
  | _ => none }
def ticketOneRow : OpenClaim := { program := "ytgpiieogiafdoaagreat", sum := "6476d617d4e647181572183da53b6a4834a741e8187735a67d77dc341cbed504", func := "bigtop/bigtoplaw08.TicketOne", spec := "ticketOne", unfollowed := true, recurses := true, plainKeys := false, apart := false }
def TicketOneSaid : Prop := ticketOneRow.holds Tryz.pinned (OpenSpec.ofChange ticketOneSpec)

/-- ITS FALSE NEIGHBOUR: 'it returns false'. Refute it at one input. -/
def ticketOneWrong : ChangeSpec := { name := "ticketOne", fn := fun _ => fun
  | [d1, d2] => { results := [.lit (.bool false)], args := [d1, d2] }
  | _ => none }
def TicketOneWrongFalsely : Prop := ticketOneRow.holds Tryz.pinned (OpenSpec.ofChange ticketOneWrong)

/-- 'bigtoplaw08.TicketNames': WHATEVER THE INPUT: true; the input reads as it did. -/
def ticketNamesSpec : ChangeSpec := { name := "ticketNames", fn := fun _ => fun
  | [] => { results := [.lit (.bool true)], args := [] }
  | _ => none }
def ticketNamesRow : OpenClaim := { program := "ytgpiieogiafdoaagreat", sum := "6476d617d4e647181572183da53b6a4834a741e8187735a67d77dc341cbed504", func := "bigtop/bigtoplaw08.TicketNames", spec := "ticketNames", unfollowed := true, recurses := true, plainKeys := false, apart := false }
def TicketNamesSaid : Prop := ticketNamesRow.holds Tryz.pinned (OpenSpec.ofChange ticketNamesSpec)

/-- ITS FALSE NEIGHBOUR: 'it returns false'. Refute it at one input. -/
def ticketNamesWrong : ChangeSpec := { name := "ticketNames", fn := fun _ => fun
  | [] => { results := [.lit (.bool false)], args := [] }
  | _ => none }
def TicketNamesWrongFalsely : Prop := ticketNamesRow.holds Tryz.pinned (OpenSpec.ofChange ticketNamesWrong)

/- THE SECOND FORM. 'bulk': how many values and letters a reading holds, each counted each time it is reached (what is shared counts as often as it is met; a slice's spare places count too). A statement '..UptoSaid' is the law's where the arguments, and the package variables that the reading takes, are together of bulk at most 1048576: NARROWER than '..Said'. Prove '..Said' where nothing that the law and all that it calls make is longer than what came in: it says more and counts as full. Else prove '..UptoSaid'. A law counts once. -/
mutual
def uptoBulk {H : Type} : DataW H → Nat
  | .lit (.string bytes) => bytes.length + 1
  | .lit _ => 1
  | .nil => 1
  | .ptr d => uptoBulk d + 1
  | .slice elems spare => uptoBulkAll elems + uptoBulkAll spare + 1
  | .agg parts => uptoBulkAll parts + 1
  | .iface _ d => uptoBulk d + 1
  | .map entries => uptoBulkEntries entries + 1
  | .held _ => 1
def uptoBulkAll {H : Type} : List (DataW H) → Nat
  | [] => 0
  | d :: r => uptoBulk d + uptoBulkAll r
def uptoBulkEntries {H : Type} : List (Lit × DataW H) → Nat
  | [] => 0
  | x :: r => uptoBulkEntry x + uptoBulkEntries r
def uptoBulkEntry {H : Type} : Lit × DataW H → Nat
  | (.string bytes, d) => bytes.length + uptoBulk d + 1
  | (_, d) => uptoBulk d + 1
 end
def uptoSmall : (H : Type) → List (DataW H) → Bool := fun _ ds => decide (uptoBulkAll ds ≤ 1048576)
def OpenSpec.upto (s : _root_.Go.ChangeSpec) : _root_.Go.OpenSpec := { _root_.Go.OpenSpec.ofChange s with cond := some uptoSmall }

/-- 'bigtoplaw08.TicketRuns', WHERE WHAT IT READS IS OF BULK AT MOST 1048576: true; the input reads as it did. -/
def ticketRunsUptoRow : OpenClaim := { program := "ytgpiieogiafdoaagreat", sum := "6476d617d4e647181572183da53b6a4834a741e8187735a67d77dc341cbed504", func := "bigtop/bigtoplaw08.TicketRuns", spec := "ticketRuns", unfollowed := true, recurses := true, plainKeys := false, apart := false, narrowed := true }
def TicketRunsUptoSaid : Prop := ticketRunsUptoRow.holds Tryz.pinned (OpenSpec.upto ticketRunsSpec)

/-- 'bigtoplaw08.TicketWorlds', WHERE WHAT IT READS IS OF BULK AT MOST 1048576: true; the input reads as it did. -/
def ticketWorldsUptoRow : OpenClaim := { program := "ytgpiieogiafdoaagreat", sum := "6476d617d4e647181572183da53b6a4834a741e8187735a67d77dc341cbed504", func := "bigtop/bigtoplaw08.TicketWorlds", spec := "ticketWorlds", unfollowed := true, recurses := true, plainKeys := false, apart := false, narrowed := true }
def TicketWorldsUptoSaid : Prop := ticketWorldsUptoRow.holds Tryz.pinned (OpenSpec.upto ticketWorldsSpec)

/-- 'bigtoplaw08.TicketAll', WHERE WHAT IT READS IS OF BULK AT MOST 1048576: true; the input reads as it did. -/
def ticketAllUptoRow : OpenClaim := { program := "ytgpiieogiafdoaagreat", sum := "6476d617d4e647181572183da53b6a4834a741e8187735a67d77dc341cbed504", func := "bigtop/bigtoplaw08.TicketAll", spec := "ticketAll", unfollowed := true, recurses := true, plainKeys := false, apart := false, narrowed := true }
def TicketAllUptoSaid : Prop := ticketAllUptoRow.holds Tryz.pinned (OpenSpec.upto ticketAllSpec)

/-- 'bigtoplaw08.TicketOne', WHERE WHAT IT READS IS OF BULK AT MOST 1048576: true; the input reads as it did. -/
def ticketOneUptoRow : OpenClaim := { program := "ytgpiieogiafdoaagreat", sum := "6476d617d4e647181572183da53b6a4834a741e8187735a67d77dc341cbed504", func := "bigtop/bigtoplaw08.TicketOne", spec := "ticketOne", unfollowed := true, recurses := true, plainKeys := false, apart := false, narrowed := true }
def TicketOneUptoSaid : Prop := ticketOneUptoRow.holds Tryz.pinned (OpenSpec.upto ticketOneSpec)

/-- 'bigtoplaw08.TicketNames', WHERE WHAT IT READS IS OF BULK AT MOST 1048576: true; the input reads as it did. -/
def ticketNamesUptoRow : OpenClaim := { program := "ytgpiieogiafdoaagreat", sum := "6476d617d4e647181572183da53b6a4834a741e8187735a67d77dc341cbed504", func := "bigtop/bigtoplaw08.TicketNames", spec := "ticketNames", unfollowed := true, recurses := true, plainKeys := false, apart := false, narrowed := true }
def TicketNamesUptoSaid : Prop := ticketNamesUptoRow.holds Tryz.pinned (OpenSpec.upto ticketNamesSpec)

end Rows
end Go.Proofs.YtgpiieogiafdoaaGreat
