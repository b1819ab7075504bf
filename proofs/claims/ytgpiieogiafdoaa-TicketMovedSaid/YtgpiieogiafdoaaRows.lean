/-
  No cell of these rows narrows 'for every input' (looked for: loops, veiled, ifaces, maps, wideKeys, modest, calm, conditions, laid).
  DERIVED. THE GIVEN ROWS OF THIS SEAT. 3 by the template 'for every input the law returns true; each argument reads behind the call as it read before'; 0 by the template 'total and deterministic' (their statements: YtgpiieogiafdoaaTotals.lean).
  GIVEN WITH THE SEED: the statements are not yours to turn. If you find one false, say at which input.
  Laid BY PROGRAM, IN A SANDBOX (cutbox-rows.mjs): the forced cells as the released guide's own fill.sh prints them over the translation d99aa1d546e8764d… (all of the seat's roots in one cut). By AI agents, Wed Nov 11 2026. No macro, syntax, notation, axiom, sorry.
-/
import Derived.Test.YtgpiieogiafdoaaChecked
import GoSem.Claim
import GoSem.ClaimJoined
import GoSem.ClaimMapViews
import Derived.JoinedTies
import Derived.KernelRfl
namespace Go.Proofs.Ytgpiieogiafdoaa
/- THE CELL 'sum', in the pinned program and in every row, IS THE sha256 OF THE DUMP (.gsa) THAT YtgpiieogiafdoaaProg.lean LOADS. Nothing in Lean hashes anything: it is a label: what it is worth is what the hold of that sum in a sandbox is worth. -/
noncomputable def Try.pinned : Pinned := { name := "ytgpiieogiafdoaa", sum := "d99aa1d546e8764d61386e34a2760efa6150ef6bd235d914860625bb7796f52e", checked := Try.checked }
namespace Rows
def none {H : Type} : Left H := { results := [], args := [] }

/-- 'bigtoplaw08.TicketLate': WHATEVER THE INPUT: true; the input reads as it did. -/
def ticketLateSpec : ChangeSpec := { name := "ticketLate", fn := fun _ => fun
  | [d1, d2, d3, d4, d5] => { results := [.lit (.bool true)], args := [d1, d2, d3, d4, d5] }
  | _ => none }
def ticketLateRow : OpenClaim := { program := "ytgpiieogiafdoaa", sum := "d99aa1d546e8764d61386e34a2760efa6150ef6bd235d914860625bb7796f52e", func := "bigtop/bigtoplaw08.TicketLate", spec := "ticketLate", unfollowed := true, recurses := true, plainKeys := false, apart := false }
def TicketLateSaid : Prop := ticketLateRow.holds Try.pinned (OpenSpec.ofChange ticketLateSpec)

/-- ITS FALSE NEIGHBOUR: 'it returns false'. Refute it at one input. -/
def ticketLateWrong : ChangeSpec := { name := "ticketLate", fn := fun _ => fun
  | [d1, d2, d3, d4, d5] => { results := [.lit (.bool false)], args := [d1, d2, d3, d4, d5] }
  | _ => none }
def TicketLateWrongFalsely : Prop := ticketLateRow.holds Try.pinned (OpenSpec.ofChange ticketLateWrong)

/-- 'bigtoplaw08.TicketMoved': WHATEVER THE INPUT: true; the input reads as it did. -/
def ticketMovedSpec : ChangeSpec := { name := "ticketMoved", fn := fun _ => fun
  | [d1, d2, d3, d4, d5] => { results := [.lit (.bool true)], args := [d1, d2, d3, d4, d5] }
  | _ => none }
def ticketMovedRow : OpenClaim := { program := "ytgpiieogiafdoaa", sum := "d99aa1d546e8764d61386e34a2760efa6150ef6bd235d914860625bb7796f52e", func := "bigtop/bigtoplaw08.TicketMoved", spec := "ticketMoved", unfollowed := true, recurses := true, plainKeys := false, apart := false }
def TicketMovedSaid : Prop := ticketMovedRow.holds Try.pinned (OpenSpec.ofChange ticketMovedSpec)

/-- ITS FALSE NEIGHBOUR: 'it returns false'. Refute it at one input. -/
def ticketMovedWrong : ChangeSpec := { name := "ticketMoved", fn := fun _ => fun
  | [d1, d2, d3, d4, d5] => { results := [.lit (.bool false)], args := [d1, d2, d3, d4, d5] }
  | _ => none }
def TicketMovedWrongFalsely : Prop := ticketMovedRow.holds Try.pinned (OpenSpec.ofChange ticketMovedWrong)

/-- 'bigtoplaw08.TicketMoney': WHATEVER THE INPUT: true; the input reads as it did. -/
def ticketMoneySpec : ChangeSpec := { name := "ticketMoney", fn := fun _ => fun
  | [d1, d2, d3, d4, d5, d6, d7] => { results := [.lit (.bool true)], args := [d1, d2, d3, d4, d5, d6, d7] }
  | _ => none }
def ticketMoneyRow : OpenClaim := { program := "ytgpiieogiafdoaa", sum := "d99aa1d546e8764d61386e34a2760efa6150ef6bd235d914860625bb7796f52e", func := "bigtop/bigtoplaw08.TicketMoney", spec := "ticketMoney", unfollowed := true, recurses := true, plainKeys := false, apart := false }
def TicketMoneySaid : Prop := ticketMoneyRow.holds Try.pinned (OpenSpec.ofChange ticketMoneySpec)

/-- ITS FALSE NEIGHBOUR: 'it returns false'. Refute it at one input. -/
def ticketMoneyWrong : ChangeSpec := { name := "ticketMoney", fn := fun _ => fun
  | [d1, d2, d3, d4, d5, d6, d7] => { results := [.lit (.bool false)], args := [d1, d2, d3, d4, d5, d6, d7] }
  | _ => none }
def TicketMoneyWrongFalsely : Prop := ticketMoneyRow.holds Try.pinned (OpenSpec.ofChange ticketMoneyWrong)

/- THE SECOND FORM. 'bulk': how many values and letters a reading holds, each counted each time it is reached (what is shared counts as often as it is met; a slice's spare places count too). A statement '..UptoSaid' is the law's where the arguments, and the package variables that the reading takes, are together of bulk at most 1048576: NARROWER than '..Said'. Prove '..Said' where nothing that the law and all that it calls make is longer than what came in: it says more and counts as full. Else prove '..UptoSaid'. A law counts once. -/
mutual
def uptoBulk {H : Type} : DataW H → Nat
  | .lit (.string bytes) => bytes.length + 1
  | .lit _ => 1
  | .nil => 1
  | .ptr d => uptoBulk d + 1
  | .slice elems spare => uptoBulkAll elems + uptoBulkAll spare + 1
  | .agg parts => uptoBulkAll parts + 1
  | .iface _ d => uptoBulk d + 1
  | .map entries => uptoBulkEntries entries + 1
  | .held _ => 1
def uptoBulkAll {H : Type} : List (DataW H) → Nat
  | [] => 0
  | d :: r => uptoBulk d + uptoBulkAll r
def uptoBulkEntries {H : Type} : List (Lit × DataW H) → Nat
  | [] => 0
  | x :: r => uptoBulkEntry x + uptoBulkEntries r
def uptoBulkEntry {H : Type} : Lit × DataW H → Nat
  | (.string bytes, d) => bytes.length + uptoBulk d + 1
  | (_, d) => uptoBulk d + 1
 end
def uptoSmall : (H : Type) → List (DataW H) → Bool := fun _ ds => decide (uptoBulkAll ds ≤ 1048576)
def OpenSpec.upto (s : _root_.Go.ChangeSpec) : _root_.Go.OpenSpec := { _root_.Go.OpenSpec.ofChange s with cond := some uptoSmall }

/-- 'bigtoplaw08.TicketLate', WHERE WHAT IT READS IS OF BULK AT MOST 1048576: true; the input reads as it did. -/
def ticketLateUptoRow : OpenClaim := { program := "ytgpiieogiafdoaa", sum := "d99aa1d546e8764d61386e34a2760efa6150ef6bd235d914860625bb7796f52e", func := "bigtop/bigtoplaw08.TicketLate", spec := "ticketLate", unfollowed := true, recurses := true, plainKeys := false, apart := false, narrowed := true }
def TicketLateUptoSaid : Prop := ticketLateUptoRow.holds Try.pinned (OpenSpec.upto ticketLateSpec)

/-- 'bigtoplaw08.TicketMoved', WHERE WHAT IT READS IS OF BULK AT MOST 1048576: true; the input reads as it did. -/
def ticketMovedUptoRow : OpenClaim := { program := "ytgpiieogiafdoaa", sum := "d99aa1d546e8764d61386e34a2760efa6150ef6bd235d914860625bb7796f52e", func := "bigtop/bigtoplaw08.TicketMoved", spec := "ticketMoved", unfollowed := true, recurses := true, plainKeys := false, apart := false, narrowed := true }
def TicketMovedUptoSaid : Prop := ticketMovedUptoRow.holds Try.pinned (OpenSpec.upto ticketMovedSpec)

/-- 'bigtoplaw08.TicketMoney', WHERE WHAT IT READS IS OF BULK AT MOST 1048576: true; the input reads as it did. -/
def ticketMoneyUptoRow : OpenClaim := { program := "ytgpiieogiafdoaa", sum := "d99aa1d546e8764d61386e34a2760efa6150ef6bd235d914860625bb7796f52e", func := "bigtop/bigtoplaw08.TicketMoney", spec := "ticketMoney", unfollowed := true, recurses := true, plainKeys := false, apart := false, narrowed := true }
def TicketMoneyUptoSaid : Prop := ticketMoneyUptoRow.holds Try.pinned (OpenSpec.upto ticketMoneySpec)

end Rows
end Go.Proofs.Ytgpiieogiafdoaa
