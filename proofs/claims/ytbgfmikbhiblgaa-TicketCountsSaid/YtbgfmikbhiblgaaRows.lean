/-
  No cell of these rows narrows 'for every input' (looked for: loops, veiled, ifaces, maps, wideKeys, modest, calm, conditions, laid).
  DERIVED. THE GIVEN ROWS OF THIS SEAT. 8 by the template 'for every input the law returns true; each argument reads behind the call as it read before'; 0 by the template 'total and deterministic' (their statements: YtbgfmikbhiblgaaTotals.lean).
  GIVEN WITH THE SEED: the statements are not yours to turn. If you find one false, say at which input.
  Laid BY PROGRAM, IN A SANDBOX (cutbox-rows.mjs): the forced cells as the released guide's own fill.sh prints them over the translation 1538cae7bb74d33e… (all of the seat's roots in one cut). By AI agents, Wed Nov 11 2026. No macro, syntax, notation, axiom, sorry.
-/
import Derived.Test.YtbgfmikbhiblgaaChecked
import GoSem.Claim
import GoSem.ClaimJoined
import GoSem.ClaimMapViews
import Derived.JoinedTies
import Derived.KernelRfl
namespace Go.Proofs.Ytbgfmikbhiblgaa
/- THE CELL 'sum', in the pinned program and in every row, IS THE sha256 OF THE DUMP (.gsa) THAT YtbgfmikbhiblgaaProg.lean LOADS. Nothing in Lean hashes anything: it is a label: what it is worth is what the hold of that sum in a sandbox is worth. -/
noncomputable def Try.pinned : Pinned := { name := "ytbgfmikbhiblgaa", sum := "1538cae7bb74d33eab72a67fb63612904a8cdc9f219687e442a565852657583b", checked := Try.checked }
namespace Rows
def none {H : Type} : Left H := { results := [], args := [] }

/-- 'bigtoplaw08.TicketLoses': WHATEVER THE INPUT: true; the input reads as it did. -/
def ticketLosesSpec : ChangeSpec := { name := "ticketLoses", fn := fun _ => fun
  | [d1, d2, d3, d4] => { results := [.lit (.bool true)], args := [d1, d2, d3, d4] }
  | _ => none }
def ticketLosesRow : OpenClaim := { program := "ytbgfmikbhiblgaa", sum := "1538cae7bb74d33eab72a67fb63612904a8cdc9f219687e442a565852657583b", func := "bigtop/bigtoplaw08.TicketLoses", spec := "ticketLoses", unfollowed := true, recurses := true, plainKeys := false, apart := false }
def TicketLosesSaid : Prop := ticketLosesRow.holds Try.pinned (OpenSpec.ofChange ticketLosesSpec)

/-- ITS FALSE NEIGHBOUR: 'it returns false'. Refute it at one input. -/
def ticketLosesWrong : ChangeSpec := { name := "ticketLoses", fn := fun _ => fun
  | [d1, d2, d3, d4] => { results := [.lit (.bool false)], args := [d1, d2, d3, d4] }
  | _ => none }
def TicketLosesWrongFalsely : Prop := ticketLosesRow.holds Try.pinned (OpenSpec.ofChange ticketLosesWrong)

/-- 'bigtoplaw08.TicketHouses': WHATEVER THE INPUT: true; the input reads as it did. -/
def ticketHousesSpec : ChangeSpec := { name := "ticketHouses", fn := fun _ => fun
  | [d1, d2, d3, d4] => { results := [.lit (.bool true)], args := [d1, d2, d3, d4] }
  | _ => none }
def ticketHousesRow : OpenClaim := { program := "ytbgfmikbhiblgaa", sum := "1538cae7bb74d33eab72a67fb63612904a8cdc9f219687e442a565852657583b", func := "bigtop/bigtoplaw08.TicketHouses", spec := "ticketHouses", unfollowed := true, recurses := true, plainKeys := false, apart := false }
def TicketHousesSaid : Prop := ticketHousesRow.holds Try.pinned (OpenSpec.ofChange ticketHousesSpec)

/-- ITS FALSE NEIGHBOUR: 'it returns false'. Refute it at one input. -/
def ticketHousesWrong : ChangeSpec := { name := "ticketHouses", fn := fun _ => fun
  | [d1, d2, d3, d4] => { results := [.lit (.bool false)], args := [d1, d2, d3, d4] }
  | _ => none }
def TicketHousesWrongFalsely : Prop := ticketHousesRow.holds Try.pinned (OpenSpec.ofChange ticketHousesWrong)

/-- 'bigtoplaw08.TicketSells': WHATEVER THE INPUT: true; the input reads as it did. -/
def ticketSellsSpec : ChangeSpec := { name := "ticketSells", fn := fun _ => fun
  | [d1, d2, d3, d4, d5, d6] => { results := [.lit (.bool true)], args := [d1, d2, d3, d4, d5, d6] }
  | _ => none }
def ticketSellsRow : OpenClaim := { program := "ytbgfmikbhiblgaa", sum := "1538cae7bb74d33eab72a67fb63612904a8cdc9f219687e442a565852657583b", func := "bigtop/bigtoplaw08.TicketSells", spec := "ticketSells", unfollowed := true, recurses := true, plainKeys := false, apart := false }
def TicketSellsSaid : Prop := ticketSellsRow.holds Try.pinned (OpenSpec.ofChange ticketSellsSpec)

/-- ITS FALSE NEIGHBOUR: 'it returns false'. Refute it at one input. -/
def ticketSellsWrong : ChangeSpec := { name := "ticketSells", fn := fun _ => fun
  | [d1, d2, d3, d4, d5, d6] => { results := [.lit (.bool false)], args := [d1, d2, d3, d4, d5, d6] }
  | _ => none }
def TicketSellsWrongFalsely : Prop := ticketSellsRow.holds Try.pinned (OpenSpec.ofChange ticketSellsWrong)

/-- 'bigtoplaw08.TicketGives': WHATEVER THE INPUT: true; the input reads as it did. -/
def ticketGivesSpec : ChangeSpec := { name := "ticketGives", fn := fun _ => fun
  | [d1, d2, d3, d4, d5, d6] => { results := [.lit (.bool true)], args := [d1, d2, d3, d4, d5, d6] }
  | _ => none }
def ticketGivesRow : OpenClaim := { program := "ytbgfmikbhiblgaa", sum := "1538cae7bb74d33eab72a67fb63612904a8cdc9f219687e442a565852657583b", func := "bigtop/bigtoplaw08.TicketGives", spec := "ticketGives", unfollowed := true, recurses := true, plainKeys := false, apart := false }
def TicketGivesSaid : Prop := ticketGivesRow.holds Try.pinned (OpenSpec.ofChange ticketGivesSpec)

/-- ITS FALSE NEIGHBOUR: 'it returns false'. Refute it at one input. -/
def ticketGivesWrong : ChangeSpec := { name := "ticketGives", fn := fun _ => fun
  | [d1, d2, d3, d4, d5, d6] => { results := [.lit (.bool false)], args := [d1, d2, d3, d4, d5, d6] }
  | _ => none }
def TicketGivesWrongFalsely : Prop := ticketGivesRow.holds Try.pinned (OpenSpec.ofChange ticketGivesWrong)

/-- 'bigtoplaw08.TicketCounts': WHATEVER THE INPUT: true; the input reads as it did. -/
def ticketCountsSpec : ChangeSpec := { name := "ticketCounts", fn := fun _ => fun
  | [d1, d2, d3, d4, d5] => { results := [.lit (.bool true)], args := [d1, d2, d3, d4, d5] }
  | _ => none }
def ticketCountsRow : OpenClaim := { program := "ytbgfmikbhiblgaa", sum := "1538cae7bb74d33eab72a67fb63612904a8cdc9f219687e442a565852657583b", func := "bigtop/bigtoplaw08.TicketCounts", spec := "ticketCounts", unfollowed := true, recurses := true, plainKeys := false, apart := false }
def TicketCountsSaid : Prop := ticketCountsRow.holds Try.pinned (OpenSpec.ofChange ticketCountsSpec)

/-- ITS FALSE NEIGHBOUR: 'it returns false'. Refute it at one input. -/
def ticketCountsWrong : ChangeSpec := { name := "ticketCounts", fn := fun _ => fun
  | [d1, d2, d3, d4, d5] => { results := [.lit (.bool false)], args := [d1, d2, d3, d4, d5] }
  | _ => none }
def TicketCountsWrongFalsely : Prop := ticketCountsRow.holds Try.pinned (OpenSpec.ofChange ticketCountsWrong)

/-- 'bigtoplaw08.TicketLate': WHATEVER THE INPUT: true; the input reads as it did. -/
def ticketLateSpec : ChangeSpec := { name := "ticketLate", fn := fun _ => fun
  | [d1, d2, d3, d4, d5] => { results := [.lit (.bool true)], args := [d1, d2, d3, d4, d5] }
  | _ => none }
def ticketLateRow : OpenClaim := { program := "ytbgfmikbhiblgaa", sum := "1538cae7bb74d33eab72a67fb63612904a8cdc9f219687e442a565852657583b", func := "bigtop/bigtoplaw08.TicketLate", spec := "ticketLate", unfollowed := true, recurses := true, plainKeys := false, apart := false }
def TicketLateSaid : Prop := ticketLateRow.holds Try.pinned (OpenSpec.ofChange ticketLateSpec)

/-- ITS FALSE NEIGHBOUR: 'it returns false'. Refute it at one input. -/
def ticketLateWrong : ChangeSpec := { name := "ticketLate", fn := fun _ => fun
  | [d1, d2, d3, d4, d5] => { results := [.lit (.bool false)], args := [d1, d2, d3, d4, d5] }
  | _ => none }
def TicketLateWrongFalsely : Prop := ticketLateRow.holds Try.pinned (OpenSpec.ofChange ticketLateWrong)

/-- 'bigtoplaw08.TicketMoved': WHATEVER THE INPUT: true; the input reads as it did. -/
def ticketMovedSpec : ChangeSpec := { name := "ticketMoved", fn := fun _ => fun
  | [d1, d2, d3, d4, d5] => { results := [.lit (.bool true)], args := [d1, d2, d3, d4, d5] }
  | _ => none }
def ticketMovedRow : OpenClaim := { program := "ytbgfmikbhiblgaa", sum := "1538cae7bb74d33eab72a67fb63612904a8cdc9f219687e442a565852657583b", func := "bigtop/bigtoplaw08.TicketMoved", spec := "ticketMoved", unfollowed := true, recurses := true, plainKeys := false, apart := false }
def TicketMovedSaid : Prop := ticketMovedRow.holds Try.pinned (OpenSpec.ofChange ticketMovedSpec)

/-- ITS FALSE NEIGHBOUR: 'it returns false'. Refute it at one input. -/
def ticketMovedWrong : ChangeSpec := { name := "ticketMoved", fn := fun _ => fun
  | [d1, d2, d3, d4, d5] => { results := [.lit (.bool false)], args := [d1, d2, d3, d4, d5] }
  | _ => none }
def TicketMovedWrongFalsely : Prop := ticketMovedRow.holds Try.pinned (OpenSpec.ofChange ticketMovedWrong)

/-- 'bigtoplaw08.TicketMoney': WHATEVER THE INPUT: true; the input reads as it did. -/
def ticketMoneySpec : ChangeSpec := { name := "ticketMoney", fn := fun _ => fun
  | [d1, d2, d3, d4, d5, d6, d7] => { results := [.lit (.bool true)], args := [d1, d2, d3, d4, d5, d6, d7] }
  | _ => none }
def ticketMoneyRow : OpenClaim := { program := "ytbgfmikbhiblgaa", sum := "1538cae7bb74d33eab72a67fb63612904a8cdc9f219687e442a565852657583b", func := "bigtop/bigtoplaw08.TicketMoney", spec := "ticketMoney", unfollowed := true, recurses := true, plainKeys := false, apart := false }
def TicketMoneySaid : Prop := ticketMoneyRow.holds Try.pinned (OpenSpec.ofChange ticketMoneySpec)

/-- ITS FALSE NEIGHBOUR: 'it returns false'. Refute it at one input. -/
def ticketMoneyWrong : ChangeSpec := { name := "ticketMoney", fn := fun _ => fun
  | [d1, d2, d3, d4, d5, d6, d7] => { results := [.lit (.bool false)], args := [d1, d2, d3, d4, d5, d6, d7] }
  | _ => none }
def TicketMoneyWrongFalsely : Prop := ticketMoneyRow.holds Try.pinned (OpenSpec.ofChange ticketMoneyWrong)

/- THE SECOND FORM. 'bulk': how many values and letters a reading holds, each counted each time it is reached (what is shared counts as often as it is met; a slice's spare places count too). A statement '..UptoSaid' is the law's where the arguments, and the package variables that the reading takes, are together of bulk at most 1048576: NARROWER than '..Said'. Prove '..Said' where nothing that the law and all that it calls make is longer than what came in: it says more and counts as full. Else prove '..UptoSaid'. A law counts once. -/
mutual
def uptoBulk {H : Type} : DataW H → Nat
  | .lit (.string bytes) => bytes.length + 1
  | .lit _ => 1
  | .nil => 1
  | .ptr d => uptoBulk d + 1
  | .slice elems spare => uptoBulkAll elems + uptoBulkAll spare + 1
  | .agg parts => uptoBulkAll parts + 1
  | .iface _ d => uptoBulk d + 1
  | .map entries => uptoBulkEntries entries + 1
  | .held _ => 1
def uptoBulkAll {H : Type} : List (DataW H) → Nat
  | [] => 0
  | d :: r => uptoBulk d + uptoBulkAll r
def uptoBulkEntries {H : Type} : List (Lit × DataW H) → Nat
  | [] => 0
  | x :: r => uptoBulkEntry x + uptoBulkEntries r
def uptoBulkEntry {H : Type} : Lit × DataW H → Nat
  | (.string bytes, d) => bytes.length + uptoBulk d + 1
  | (_, d) => uptoBulk d + 1
 end
def uptoSmall : (H : Type) → List (DataW H) → Bool := fun _ ds => decide (uptoBulkAll ds ≤ 1048576)
def OpenSpec.upto (s : _root_.Go.ChangeSpec) : _root_.Go.OpenSpec := { _root_.Go.OpenSpec.ofChange s with cond := some uptoSmall }

/-- 'bigtoplaw08.TicketLoses', WHERE WHAT IT READS IS OF BULK AT MOST 1048576: true; the input reads as it did. -/
def ticketLosesUptoRow : OpenClaim := { program := "ytbgfmikbhiblgaa", sum := "1538cae7bb74d33eab72a67fb63612904a8cdc9f219687e442a565852657583b", func := "bigtop/bigtoplaw08.TicketLoses", spec := "ticketLoses", unfollowed := true, recurses := true, plainKeys := false, apart := false, narrowed := true }
def TicketLosesUptoSaid : Prop := ticketLosesUptoRow.holds Try.pinned (OpenSpec.upto ticketLosesSpec)

/-- 'bigtoplaw08.TicketHouses', WHERE WHAT IT READS IS OF BULK AT MOST 1048576: true; the input reads as it did. -/
def ticketHousesUptoRow : OpenClaim := { program := "ytbgfmikbhiblgaa", sum := "1538cae7bb74d33eab72a67fb63612904a8cdc9f219687e442a565852657583b", func := "bigtop/bigtoplaw08.TicketHouses", spec := "ticketHouses", unfollowed := true, recurses := true, plainKeys := false, apart := false, narrowed := true }
def TicketHousesUptoSaid : Prop := ticketHousesUptoRow.holds Try.pinned (OpenSpec.upto ticketHousesSpec)

/-- 'bigtoplaw08.TicketSells', WHERE WHAT IT READS IS OF BULK AT MOST 1048576: true; the input reads as it did. -/
def ticketSellsUptoRow : OpenClaim := { program := "ytbgfmikbhiblgaa", sum := "1538cae7bb74d33eab72a67fb63612904a8cdc9f219687e442a565852657583b", func := "bigtop/bigtoplaw08.TicketSells", spec := "ticketSells", unfollowed := true, recurses := true, plainKeys := false, apart := false, narrowed := true }
def TicketSellsUptoSaid : Prop := ticketSellsUptoRow.holds Try.pinned (OpenSpec.upto ticketSellsSpec)

/-- 'bigtoplaw08.TicketGives', WHERE WHAT IT READS IS OF BULK AT MOST 1048576: true; the input reads as it did. -/
def ticketGivesUptoRow : OpenClaim := { program := "ytbgfmikbhiblgaa", sum := "1538cae7bb74d33eab72a67fb63612904a8cdc9f219687e442a565852657583b", func := "bigtop/bigtoplaw08.TicketGives", spec := "ticketGives", unfollowed := true, recurses := true, plainKeys := false, apart := false, narrowed := true }
def TicketGivesUptoSaid : Prop := ticketGivesUptoRow.holds Try.pinned (OpenSpec.upto ticketGivesSpec)

/-- 'bigtoplaw08.TicketCounts', WHERE WHAT IT READS IS OF BULK AT MOST 1048576: true; the input reads as it did. -/
def ticketCountsUptoRow : OpenClaim := { program := "ytbgfmikbhiblgaa", sum := "1538cae7bb74d33eab72a67fb63612904a8cdc9f219687e442a565852657583b", func := "bigtop/bigtoplaw08.TicketCounts", spec := "ticketCounts", unfollowed := true, recurses := true, plainKeys := false, apart := false, narrowed := true }
def TicketCountsUptoSaid : Prop := ticketCountsUptoRow.holds Try.pinned (OpenSpec.upto ticketCountsSpec)

/-- 'bigtoplaw08.TicketLate', WHERE WHAT IT READS IS OF BULK AT MOST 1048576: true; the input reads as it did. -/
def ticketLateUptoRow : OpenClaim := { program := "ytbgfmikbhiblgaa", sum := "1538cae7bb74d33eab72a67fb63612904a8cdc9f219687e442a565852657583b", func := "bigtop/bigtoplaw08.TicketLate", spec := "ticketLate", unfollowed := true, recurses := true, plainKeys := false, apart := false, narrowed := true }
def TicketLateUptoSaid : Prop := ticketLateUptoRow.holds Try.pinned (OpenSpec.upto ticketLateSpec)

/-- 'bigtoplaw08.TicketMoved', WHERE WHAT IT READS IS OF BULK AT MOST 1048576: true; the input reads as it did. -/
def ticketMovedUptoRow : OpenClaim := { program := "ytbgfmikbhiblgaa", sum := "1538cae7bb74d33eab72a67fb63612904a8cdc9f219687e442a565852657583b", func := "bigtop/bigtoplaw08.TicketMoved", spec := "ticketMoved", unfollowed := true, recurses := true, plainKeys := false, apart := false, narrowed := true }
def TicketMovedUptoSaid : Prop := ticketMovedUptoRow.holds Try.pinned (OpenSpec.upto ticketMovedSpec)

/-- 'bigtoplaw08.TicketMoney', WHERE WHAT IT READS IS OF BULK AT MOST 1048576: true; the input reads as it did. -/
def ticketMoneyUptoRow : OpenClaim := { program := "ytbgfmikbhiblgaa", sum := "1538cae7bb74d33eab72a67fb63612904a8cdc9f219687e442a565852657583b", func := "bigtop/bigtoplaw08.TicketMoney", spec := "ticketMoney", unfollowed := true, recurses := true, plainKeys := false, apart := false, narrowed := true }
def TicketMoneyUptoSaid : Prop := ticketMoneyUptoRow.holds Try.pinned (OpenSpec.upto ticketMoneySpec)

end Rows
end Go.Proofs.Ytbgfmikbhiblgaa
