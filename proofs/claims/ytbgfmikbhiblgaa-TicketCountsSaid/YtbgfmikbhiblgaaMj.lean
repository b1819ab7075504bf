/- The reference's Copy and Sells are walked. -/
import Derived.Test.YtbgfmikbhiblgaaMe
import Derived.Test.YtbgfmikbhiblgaaMf
import Derived.Test.YtbgfmikbhiblgaaMh
import Derived.Test.YtbgfmikbhiblgaaMi
import Derived.Test.YtbgfmikbhiblgaaRows
import Derived.BigQuiet
import Derived.Deep.AppendLies
import Derived.Deep.DeepCutAuto
import Derived.Deep.QuietTactic
import Derived.Deep.RegionHeld3
import Derived.Laws.MakeOwn
import Derived.Laws.OwnMore
import Derived.Laws.StructEq
import Derived.Lib.Hide
import Derived.Shelf.Abstract
import Derived.WalkKit
import Derived.WalkLawsBesides
import Derived.WalkSmall
import Derived.WalkSpells
import Derived.WideKeyRuns
/- The reference's own copy of a book, in memory: all of its rows are known whole, and lie apart. -/
namespace Go.Proofs.Ytbgfmikbhiblgaa
set_option linter.unusedSimpArgs false
set_option linter.unusedVariables false
open Go.RowKit Go.BT

structure Desk6 (base : Nat) (w : World) (g : Nat) (b : Book) (vs vo vt : Value) (xs : List Value) : Prop where
  bx : Bx w g [.int .i64 b.agency, vs, vo, .int .i64 b.sent, vt, .int .i64 b.cash] 30
  gb : base ≤ g
  outer : w.ownsRow base 23 1 vs b.seats.length xs
  row : ∀ i (hi : i < b.seats.length) (hx : i < xs.length), OwnI base 3 w xs[i] b.seats[i]
  off : OwnB base 4 w vo b.off
  took : OwnL (fun _ => False) base 123 w vt b.took
  apart : Apart xs
/-- Block k is a row of cells of type T. -/
def Ty (w : World) (k : Nat) (T : TypeId) : Prop := ∃ cs, Bx w k cs T
theorem _root_.Go.BT.Bx.ty {w : World} {k : Nat} {cs : List Value} {T : TypeId} (h : Bx w k cs T) : Ty w k T := ⟨cs, h⟩
theorem ne_ty {w : World} {b s : Nat} {e T : TypeId} {v : Value} {n k : Nat} {x : List Value} (hk : Ty w k T) (h : w.ownsRow b e s v n x) (hne : T ≠ e) : v.ownBlock ≠ some k := by
  obtain ⟨cs, hb⟩ := hk
  exact apart_bx hb h hne
theorem owns_ty {w : World} {b s : Nat} {e : TypeId} {v : Value} {n k : Nat} {x : List Value} (h : w.ownsRow b e s v n x) (hk : v.ownBlock = some k) : Ty w k e := by
  rcases h.2 with ⟨rfl, _⟩ | ⟨g, cap, cur, rfl, _, hg, _⟩
  · simp [Value.ownBlock] at hk
  · simp [Value.ownBlock] at hk
    subst hk
    exact ⟨cur.toList, by unfold Bx; simpa using hg⟩
theorem own_rowT {α : Type} [Rep α] {S : Nat → Prop} {base : Nat} {e : TypeId} {w : World} {v : Value} {l : List α} (h : OwnL S base e w v l) : ∃ ys, w.ownsRow base e (Rep.k α) v l.length ys := by obtain ⟨ys, h, _⟩ := h; exact ⟨ys, h⟩
theorem _root_.Go.BT.Bx.neTy {w : World} {g k : Nat} {cs : List Value} {T U : TypeId} (h : Bx w g cs T) (hk : Ty w k U) (hne : T ≠ U) : g ≠ k := by
  obtain ⟨ds, hb⟩ := hk
  intro e
  subst e
  unfold Bx at h hb
  rw [h] at hb
  simp at hb
  exact hne hb.2

section
variable {base : Nat} {w w' : World} {g : Nat} {b : Book} {vs vo vt : Value} {xs : List Value}
theorem Desk6.len (D : Desk6 base w g b vs vo vt xs) : xs.length = b.seats.length := by have := D.outer.1; omega
theorem Desk6.lt (D : Desk6 base w g b vs vo vt xs) : g < w.heap.size := D.bx.lt
theorem Desk6.step (D : Desk6 base w g b vs vo vt xs) (hs : Step w w') : Desk6 base w' g b vs vo vt xs :=
  have hg : w.grownBy w' none := ⟨hs.os, hs.tape, hs.output, hs.size, fun k hk _ => hs.block k hk id⟩
  { bx := D.bx.step hs, gb := D.gb, outer := D.outer.kept hg (by cases hv : vs.ownBlock <;> simp), row := fun i hi hx => (D.row i hi hx).kept hg (by cases hv : (xs[i]).ownBlock <;> simp),
    off := D.off.kept hg (by cases hv : vo.ownBlock <;> simp), took := D.took.step hs, apart := D.apart }
theorem Desk6.weak (D : Desk6 base w g b vs vo vt xs) {b2 : Nat} (h : b2 ≤ base) : Desk6 b2 w g b vs vo vt xs := by
  obtain ⟨ts, ht, hr⟩ := D.took
  exact ⟨D.bx, Nat.le_trans h D.gb, owns_mono D.outer h, fun i hi hx => owns_mono (D.row i hi hx) h, owns_mono D.off h, ⟨ts, owns_mono ht h, hr⟩, D.apart⟩
/-- A block of a type of its own is written. -/
theorem Desk6.other (D : Desk6 base w g b vs vo vt xs) {k : Nat} {T : TypeId} (hg : w.grownBy w' (some k)) (hk : Ty w k T) (h1 : T ≠ 23) (h2 : T ≠ 3) (h3 : T ≠ 4) (h4 : T ≠ 123) (h5 : T ≠ 30) : Desk6 base w' g b vs vo vt xs := by
  obtain ⟨ys, hy⟩ := own_rowT D.took
  exact
    { bx := D.bx.keep (S := fun j => j = k) (.grown hg fun j hj _ => by injection hj with e; exact e.symm) (D.bx.neTy hk (Ne.symm h5)), gb := D.gb, outer := D.outer.kept hg (.inr (ne_ty hk D.outer h1)), row := fun i hi hx => (D.row i hi hx).kept hg (.inr (ne_ty hk (D.row i hi hx) h2)),
      off := D.off.kept hg (.inr (ne_ty hk D.off h3)), took := D.took.keptF fun q hq => hg.block q (D.took.lt q hq).2 fun e => ne_ty hk hy h4 (hq.trans e), apart := D.apart }
/-- A row of a type of its own grows. -/
theorem Desk6.grown (D : Desk6 base w g b vs vo vt xs) {α : Type} [Rep α] {S : Nat → Prop} {b2 : Nat} {e : TypeId} {v : Value} {l : List α} (ho : OwnL S b2 e w v l) (hg : w.grownBy w' v.ownBlock) (h1 : e ≠ 23) (h2 : e ≠ 3) (h3 : e ≠ 4) (h4 : e ≠ 123) (h5 : e ≠ 30) : Desk6 base w' g b vs vo vt xs := by
  obtain ⟨ys, hy⟩ := own_rowT ho
  cases hq : v.ownBlock with
  | none =>
    rw [hq] at hg
    exact D.step ⟨hg.os, hg.tape, hg.output, hg.size, fun k hk _ => hg.block k hk (by simp)⟩
  | some k =>
    rw [hq] at hg
    exact D.other hg (owns_ty hy hq) h1 h2 h3 h4 h5
/-- The book's own variable is written. -/
theorem Desk6.setBook (D : Desk6 base w g b vs vo vt xs) (hw : Wrote g w w') (b' : Book) (e1 : b'.seats = b.seats) (e2 : b'.off = b.off) (e3 : b'.took = b.took)
    (hb : Bx w' g [.int .i64 b'.agency, vs, vo, .int .i64 b'.sent, vt, .int .i64 b'.cash] 30) : Desk6 base w' g b' vs vo vt xs := by
  obtain ⟨ys, hy⟩ := own_rowT D.took
  have hk := D.bx.ty
  exact
    { bx := hb, gb := D.gb, outer := by rw [e1]; exact D.outer.kept hw.grown (.inr (ne_ty hk D.outer (by decide))),
      row := fun i hi hx => by
        have hi' : i < b.seats.length := by rw [← e1]; exact hi
        have he : b'.seats[i] = b.seats[i] := by simp [e1]
        rw [he]
        exact (D.row i hi' hx).kept hw.grown (.inr (ne_ty hk (D.row i hi' hx) (by decide)))
      off := by rw [e2]; exact D.off.kept hw.grown (.inr (ne_ty hk D.off (by decide)))
      took := by
        rw [e3]
        exact D.took.keptF (fun k hk' => hw.block k (fun e => ne_ty hk hy (by decide) (e ▸ hk')))
      apart := D.apart }
theorem Desk6.setCash (D : Desk6 base w g b vs vo vt xs) (n : Int) : Desk6 base (w.setCell ⟨g, 5, none⟩ (.int .i64 n)) g { b with cash := n } vs vo vt xs :=
  D.setBook (.setCell w g 5 _) _ rfl rfl rfl (D.bx.setCell 5 _)
theorem Desk6.setSent (D : Desk6 base w g b vs vo vt xs) (n : Int) : Desk6 base (w.setCell ⟨g, 3, none⟩ (.int .i64 n)) g { b with sent := n } vs vo vt xs :=
  D.setBook (.setCell w g 3 _) _ rfl rfl rfl (D.bx.setCell 3 _)
/-- A seat is written. -/
theorem Desk6.setSeat (D : Desk6 base w g b vs vo vt xs) {i j gi : Nat} {c : Nat} (hi : i < b.seats.length) (hx : i < xs.length) (hv : xs[i] = .slice (some ⟨gi, 0, none⟩) b.seats[i].length c) (x : Int) :
    Desk6 base (w.setCell ⟨gi, j, none⟩ (.int .i64 x)) g (putSeat b i j x) vs vo vt xs ∧ base ≤ gi := by
  have hrow := D.row i hi hx
  have hown : xs[i].ownBlock = some gi := by rw [hv]; rfl
  have hgi : base ≤ gi := (hrow.lt _ hown).1
  have hk : Ty w gi 3 := owns_ty hrow hown
  have hw : Wrote gi w (w.setCell ⟨gi, j, none⟩ (.int .i64 x)) := Wrote.setCell w gi j _
  have hgd : b.seats.getD i [] = b.seats[i] := by simp [List.getD_eq_getElem?_getD, hi]
  obtain ⟨ys, hy⟩ := own_rowT D.took
  refine ⟨⟨D.bx.keep hw.keeps (D.bx.neTy hk (by decide)), D.gb, ?_, fun k hk2 hkx => ?_, D.off.kept hw.grown (.inr (ne_ty hk D.off (by decide))), D.took.keptF (fun k hk2 => hw.block k (fun e => ne_ty hk hy (by decide) (e ▸ hk2))), D.apart⟩, hgi⟩
  · have := D.outer.kept hw.grown (.inr (ne_ty hk D.outer (by decide)))
    simpa [putSeat] using this
  · have hk' : k < b.seats.length := by simpa [putSeat] using hk2
    by_cases hki : k = i
    · subst hki
      have he : (putSeat b k j x).seats[k] = b.seats[k].set j x := by simp [putSeat, List.getElem?_eq_getElem hk']
      rw [he]
      unfold OwnI at hrow ⊢
      rw [hv] at hrow ⊢
      have := (World.ownsRow.stored hrow j (.int .i64 x)).1
      rw [List.length_set, List.map_set]
      exact this
    · have he : (putSeat b i j x).seats[k] = b.seats[k] := by simp only [putSeat]; rw [List.getElem_set_ne (Ne.symm hki)]
      rw [he]
      exact (D.row k hk' hkx).kept hw.grown (.inr (D.apart.at hx hkx (Ne.symm hki) hown))
/-- A show is taken off. -/
theorem Desk6.setOff (D : Desk6 base w g b vs vo vt xs) {i go : Nat} {c : Nat} (hv : vo = .slice (some ⟨go, 0, none⟩) b.off.length c) (x : Bool) :
    Desk6 base (w.setCell ⟨go, i, none⟩ (.bool x)) g { b with off := b.off.set i x } vs vo vt xs ∧ base ≤ go := by
  have hown : vo.ownBlock = some go := by rw [hv]; rfl
  have hgo : base ≤ go := (D.off.lt _ hown).1
  have hk : Ty w go 4 := owns_ty D.off hown
  have hw : Wrote go w (w.setCell ⟨go, i, none⟩ (.bool x)) := Wrote.setCell w go i _
  obtain ⟨ys, hy⟩ := own_rowT D.took
  refine ⟨⟨D.bx.keep hw.keeps (D.bx.neTy hk (by decide)), D.gb, D.outer.kept hw.grown (.inr (ne_ty hk D.outer (by decide))), fun k hk2 hkx => (D.row k hk2 hkx).kept hw.grown (.inr (ne_ty hk (D.row k hk2 hkx) (by decide))), ?_, D.took.keptF (fun k hk2 => hw.block k (fun e => ne_ty hk hy (by decide) (e ▸ hk2))), D.apart⟩, hgo⟩
  have hoff := D.off
  unfold OwnB at hoff ⊢
  rw [hv] at hoff ⊢
  have := (World.ownsRow.stored hoff i (.bool x)).1
  simpa [List.map_set] using this
/-- The book, handed out. -/
theorem Desk6.book (D : Desk6 base w g b vs vo vt xs) {S : Nat → Prop} (hS : ∀ j, base ≤ j → ¬ S j) : Rep.rep S w [.int .i64 b.agency, vs, vo, .int .i64 b.sent, vt, .int .i64 b.cash] b := by
  have hk : ∀ j, base ≤ j → j < w.heap.size → ¬ S j := fun j h _ => hS j h
  refine ⟨vs, vo, vt, rfl, ?_, (OwnL.sl (S := S) D.off.own hk), OwnL.sl (S := S) (D.took.flat S) hk⟩
  have hl := D.len
  have : OwnL S base 23 w vs b.seats := by
    refine ⟨xs, D.outer, fun i hi => ⟨xs[i]'(by omega), ?_, OwnL.slb (S := avoid S vs) (D.row i hi (by omega)).own fun k hq ha => ?_⟩⟩
    · show (xs.drop (i * 1)).take 1 = _
      rw [Nat.mul_one, List.drop_eq_getElem_cons (by omega), List.take_succ_cons, List.take_zero]
    · rcases ha with ha | ha
      · exact hk k ((D.row i hi (by omega)).lt k hq).1 ((D.row i hi (by omega)).lt k hq).2 ha
      · exact apart_rows (D.row i hi (by omega)) D.outer (by decide) k hq ha
  exact this.sl hk
/-- What is read on the way to a seat. -/
theorem Desk6.seat_at (D : Desk6 base w g b vs vo vt xs) {i : Nat} (hi : i < b.seats.length) (h0 : 0 < b.seats[i].length) :
    ∃ go co gi ci, vs = .slice (some ⟨go, 0, none⟩) b.seats.length co ∧ (∃ hx : i < xs.length, xs[i] = .slice (some ⟨gi, 0, none⟩) b.seats[i].length ci) ∧ w.cell? ⟨go, i, none⟩ = some (.slice (some ⟨gi, 0, none⟩) b.seats[i].length ci) ∧
      (∀ j (hj : j < b.seats[i].length), w.cell? ⟨gi, j, none⟩ = some (.int .i64 b.seats[i][j])) ∧ (∀ j, w.frozen? ⟨gi, j, none⟩ = false) ∧ go < w.heap.size ∧ gi < w.heap.size ∧ base ≤ go ∧ base ≤ gi := by
  obtain ⟨go, co, hv, _, hbo, hgo, hc, _⟩ := owns_at D.outer (by omega)
  have hx : i < xs.length := by have := D.len; omega
  obtain ⟨gi, ci, hvi, _, hbi, hgi, hci, hfi⟩ := owns_at (D.row i hi hx) h0
  refine ⟨go, co, gi, ci, hv, ⟨hx, hvi⟩, ?_, fun j hj => ?_, hfi, hgo, hgi, hbo, hbi⟩
  · rw [hc i (by omega), List.getElem?_eq_getElem hx, hvi]
  · rw [hci j hj]; simp [hj]
theorem Desk6.off_at (D : Desk6 base w g b vs vo vt xs) {i : Nat} (hi : i < b.off.length) :
    ∃ go co, vo = .slice (some ⟨go, 0, none⟩) b.off.length co ∧ (∀ j (hj : j < b.off.length), w.cell? ⟨go, j, none⟩ = some (.bool b.off[j])) ∧ (∀ j, w.frozen? ⟨go, j, none⟩ = false) ∧ go < w.heap.size ∧ base ≤ go := by
  obtain ⟨go, co, hv, _, hbo, hgo, hc, hf⟩ := owns_at D.off (by omega)
  exact ⟨go, co, hv, fun j hj => by rw [hc j hj]; simp [hj], hf, hgo, hbo⟩
end
/-- The book's rows alone: what Copy returns. -/
structure Rows6 (base : Nat) (w : World) (b : Book) (vs vo vt : Value) (xs : List Value) : Prop where
  outer : w.ownsRow base 23 1 vs b.seats.length xs
  row : ∀ i (hi : i < b.seats.length) (hx : i < xs.length), OwnI base 3 w xs[i] b.seats[i]
  off : OwnB base 4 w vo b.off
  took : OwnL (fun _ => False) base 123 w vt b.took
  apart : Apart xs
section
variable {base : Nat} {w w' : World} {b : Book} {vs vo vt : Value} {xs : List Value}
theorem Rows6.step (D : Rows6 base w b vs vo vt xs) (hs : Step w w') : Rows6 base w' b vs vo vt xs :=
  have hg : w.grownBy w' none := ⟨hs.os, hs.tape, hs.output, hs.size, fun k hk _ => hs.block k hk id⟩
  { outer := D.outer.kept hg (by cases hv : vs.ownBlock <;> simp), row := fun i hi hx => (D.row i hi hx).kept hg (by cases hv : (xs[i]).ownBlock <;> simp),
    off := D.off.kept hg (by cases hv : vo.ownBlock <;> simp), took := D.took.step hs, apart := D.apart }
theorem Rows6.desk (D : Rows6 base w b vs vo vt xs) {b2 g : Nat} (h : b2 ≤ base) (hg : b2 ≤ g) (hb : Bx w g [.int .i64 b.agency, vs, vo, .int .i64 b.sent, vt, .int .i64 b.cash] 30) : Desk6 b2 w g b vs vo vt xs := by
  obtain ⟨ts, ht, hr⟩ := D.took
  exact ⟨hb, hg, owns_mono D.outer h, fun i hi hx => owns_mono (D.row i hi hx) h, owns_mono D.off h, ⟨ts, owns_mono ht h, hr⟩, D.apart⟩
theorem Rows6.form (D : Rows6 base w b vs vo vt xs) : (∃ p c, vs = .slice p b.seats.length c) ∧ (∃ p c, vo = .slice p b.off.length c) ∧ (∃ p c, vt = .slice p b.took.length c) := by
  obtain ⟨p, c, h, _⟩ := owns_form D.outer
  obtain ⟨p2, c2, h2, _⟩ := owns_form D.off
  obtain ⟨p3, c3, h3, _⟩ := D.took.form
  exact ⟨⟨p, c, h⟩, ⟨p2, c2, h2⟩, ⟨p3, c3, h3⟩⟩
end
end Go.Proofs.Ytbgfmikbhiblgaa
/- Walks: the reference's Copy: a book in new memory, all of its rows its own. -/
namespace Go.Proofs.Ytbgfmikbhiblgaa
set_option linter.unusedSimpArgs false
set_option linter.unusedVariables false
open Go.RowKit Go.BT

theorem siRefBook : SI Try.prog 30 6 := ⟨⟨_, Try.underlying30⟩, by kernel_rfl⟩
theorem infoRefKey : (Try.prog.info? 123).map (fun i => (i.zero, i.size, i.bytes)) = some (some (.agg #[.int .i64 0, .int .i64 0]), 2, 16) := by kernel_rfl
theorem eiRefKeys : EI Try.prog 28 123 (.agg #[.int .i64 0, .int .i64 0]) 2 16 := .mk' Try.underlying28 infoRefKey rfl

/-- The rows of seats, as they stand. -/
structure RowsP (base : Nat) (w : World) (b : Book) (k : Nat) (vs : Value) (xs : List Value) : Prop where
  outer : w.ownsRow base 23 1 vs k xs
  row : ∀ i (hi : i < b.seats.length) (hx : i < xs.length), OwnI base 3 w xs[i] b.seats[i]
  apart : Apart xs
section
variable {base : Nat} {w w' : World} {b : Book} {k : Nat} {vs vo vt : Value} {xs : List Value}
theorem owns_step {s n : Nat} {e : TypeId} {v : Value} {x : List Value} (h : w.ownsRow base e s v n x) (hs : Step w w') : w'.ownsRow base e s v n x :=
  have hg : w.grownBy w' none := ⟨hs.os, hs.tape, hs.output, hs.size, fun k hk _ => hs.block k hk id⟩
  h.kept hg (by cases v.ownBlock <;> simp)
theorem grown_of {q : Nat} (h : StepX (fun j => j = q) w w') : w.grownBy w' (some q) := ⟨h.os, h.tape, h.output, h.size, fun k hk hne => h.block k hk fun e => hne (by rw [e])⟩
theorem owns_wrote {s n q : Nat} {e T : TypeId} {v : Value} {x : List Value} (h : w.ownsRow base e s v n x) (hw : w.grownBy w' (some q)) (hq : Ty w q T) (hne : T ≠ e) : w'.ownsRow base e s v n x :=
  h.kept hw (.inr (ne_ty hq h hne))
theorem RowsP.step (P : RowsP base w b k vs xs) (hs : Step w w') : RowsP base w' b k vs xs :=
  ⟨owns_step P.outer hs, fun i hi hx => owns_step (P.row i hi hx) hs, P.apart⟩
theorem RowsP.wrote (P : RowsP base w b k vs xs) {q : Nat} {T : TypeId} (hw : w.grownBy w' (some q)) (hq : Ty w q T) (h1 : T ≠ 23) (h2 : T ≠ 3) : RowsP base w' b k vs xs :=
  ⟨owns_wrote P.outer hw hq h1, fun i hi hx => owns_wrote (P.row i hi hx) hw hq h2, P.apart⟩
theorem keys_wrote {l : List Key} {q : Nat} {T : TypeId} (h : OwnL (fun _ => False) base 123 w vt l) (hw : w.grownBy w' (some q)) (hq : Ty w q T) (hne : T ≠ 123) : OwnL (fun _ => False) base 123 w' vt l := by
  obtain ⟨ys, hy⟩ := own_rowT h
  exact h.keptF fun g hg => hw.block g (h.lt g hg).2 fun e => ne_ty hq hy hne (hg.trans e)
end
/-- Behind k rounds of the loop that copies the rows. -/
def CopyRel (w W1 : World) (b : Book) (vo vt : Value) (k : Nat) (wr : World) (vs : Value) (xs : List Raw) : Prop :=
  Bx wr (w.heap.size + 2) [.int .i64 b.agency, vs, vo, .int .i64 b.sent, vt, .int .i64 b.cash] 30 ∧ OwnL (fun _ => False) W1.heap.size 23 wr vs xs ∧ xs.length = k ∧
  (∀ i (hi : i < b.seats.length) (hx : i < xs.length), OwnI w.heap.size 3 wr xs[i].v b.seats[i]) ∧ Apart (xs.map (·.v)) ∧ Step W1 wr
theorem CopyRel.grown {w W1 wr W6 w2 : World} {b : Book} {vo vt vs : Value} {xs : List Raw} {k : Nat} (h : CopyRel w W1 b vo vt k wr vs xs) (hT : Step wr W6) (hg : W6.grownBy w2 vs.ownBlock) :
    Bx w2 (w.heap.size + 2) [.int .i64 b.agency, vs, vo, .int .i64 b.sent, vt, .int .i64 b.cash] 30 := by
  have ho := own_raw h.2.1
  exact (h.1.step hT).keep (S := fun j => vs.ownBlock = some j) (.grown hg fun j hj _ => hj) (apart_bx h.1 ho (by decide))
theorem CopyRel.next {w W1 wr W6 w2 : World} {b : Book} {vo vt vs vs' : Value} {xs : List Raw} {k : Nat} (h : CopyRel w W1 b vo vt k wr vs xs) (hz : W1.heap.size = w.heap.size + 2) (hlt : k < b.seats.length) (hT : Step wr W6) (x : Raw)
    (hx : OwnI wr.heap.size 3 W6 x.v b.seats[k]) (hown : OwnL (fun _ => False) W1.heap.size 23 w2 vs' (xs ++ [x])) (hg : W6.grownBy w2 vs.ownBlock) :
    CopyRel w W1 b vo vt (k + 1) (w2.setCell ⟨w.heap.size + 2, 1, none⟩ vs') vs' (xs ++ [x]) := by
  have hb := h.grown hT hg
  obtain ⟨h1, h2, h3, h4, h5, h6⟩ := h
  have ho := own_raw h2
  have ho' := own_raw hown
  have hw : Wrote (w.heap.size + 2) w2 (w2.setCell ⟨w.heap.size + 2, 1, none⟩ vs') := Wrote.setCell _ _ _ _
  have hwz : w.heap.size ≤ wr.heap.size := by have := h6.size; omega
  have grownNone : wr.grownBy W6 none := ⟨hT.os, hT.tape, hT.output, hT.size, fun j hj _ => hT.block j hj id⟩
  have keepRow : ∀ {base n : Nat} {u : Value} {l : List Value}, W6.ownsRow base 3 1 u n l → (w2.setCell ⟨w.heap.size + 2, 1, none⟩ vs').ownsRow base 3 1 u n l := fun {base n u l} hr => by
    have h7 := hr.kept hg (by
      cases hq : u.ownBlock with
      | none => exact .inl rfl
      | some q => exact .inr fun he => apart_rows hr (ho.kept grownNone (by cases vs.ownBlock <;> simp)) (by decide) q hq he.symm)
    refine h7.kept hw.grown (.inr ?_)
    exact apart_bx hb h7 (by decide)
  have h61 : Step W1 w2 := by
    have := h6.trans hT
    exact StepX.fresh (w := W6) (X := fun j => vs.ownBlock = some j) this (StepX.grown hg fun j hj _ => hj) (fun j hj => (h2.lt j hj).1)
  refine ⟨hb.setCell 1 vs', hown.keptF fun g' hg' => hw.block g' fun e => apart_bx hb ho' (by decide) (e ▸ hg'), by simp [h3], fun i hi hxi => ?_, ?_, ?_⟩
  · by_cases hik : i < xs.length
    · have : (xs ++ [x])[i] = xs[i] := List.getElem_append_left hik
      rw [this]
      exact keepRow ((h4 i hi hik).kept grownNone (by cases (xs[i]).v.ownBlock <;> simp))
    · have hi2 : i = k := by simp at hxi; omega
      subst hi2
      have : (xs ++ [x])[i] = x := by simp [List.getElem_append, h3]
      rw [this]
      exact keepRow (owns_mono hx hwz)
  · rw [List.map_append]
    refine h5.snoc fun y hy k' hk' he => ?_
    obtain ⟨y', hy', rfl⟩ := List.mem_map.1 hy
    obtain ⟨i, hi, rfl⟩ := List.getElem_of_mem hy'
    have a1 := ((h4 i (by omega) hi).lt k' hk').2
    have a2 := (hx.lt k' he).1
    omega
  · exact h61.setNew ⟨w.heap.size + 2, 1, none⟩ vs' (by show W1.heap.size ≤ w.heap.size + 2; omega)
theorem CopyRel.rows {w W1 wr : World} {b : Book} {vo vt vs : Value} {xs : List Raw} {k : Nat} (h : CopyRel w W1 b vo vt k wr vs xs) (hz : W1.heap.size = w.heap.size + 2) : RowsP w.heap.size wr b k vs (xs.map (·.v)) := by
  obtain ⟨h1, h2, h3, h4, h5, h6⟩ := h
  refine ⟨?_, fun i hi hx => ?_, h5⟩
  · have := owns_mono (b' := w.heap.size) (own_raw h2) (by omega)
    rw [h3] at this
    exact this
  · rw [List.getElem_map]; exact h4 i hi (by simpa using hx)

set_option maxHeartbeats 2000000 in
theorem Copy_any (S : Nat → Prop) (b : Book) (v : Value) (w : World) (hv : AV S w v b) (hf : thinP b) :
    Calls Try.prog 56 #[v] w fun e w' => ∃ vs vo vt xs, e = .returned (.agg #[.int .i64 b.agency, vs, vo, .int .i64 b.sent, vt, .int .i64 b.cash]) ∧ Rows6 w.heap.size w' b vs vo vt xs ∧ Step w w' := by
  obtain ⟨d1, d2, d4, rfl, s1, s2, s4⟩ := hv.book
  obtain ⟨p1, k1, rfl⟩ := s1.form
  obtain ⟨p2, k2, rfl⟩ := s2.form
  obtain ⟨p4, k4, rfl⟩ := s4.form
  obtain ⟨f1, f2, f3, f4⟩ := hf
  obtain ⟨W1, hW1⟩ : ∃ W1, W1 = (w.alloc (.cells #[.int .i64 b.agency, .slice p1 b.seats.length k1, .slice p2 b.off.length k2, .int .i64 b.sent, .slice p4 b.took.length k4, .int .i64 b.cash] 30)).alloc (.cells #[.int .i64 0, .slice none 0 0, .slice none 0 0, .int .i64 0, .slice none 0 0, .int .i64 0] 30) := ⟨_, rfl⟩
  have b1 : Bx W1 w.heap.size [.int .i64 b.agency, .slice p1 b.seats.length k1, .slice p2 b.off.length k2, .int .i64 b.sent, .slice p4 b.took.length k4, .int .i64 b.cash] 30 := by subst hW1; exact (Bx.new _ _ _).alloc _
  have b2 : Bx W1 (w.heap.size + 1) [.int .i64 0, .slice none 0 0, .slice none 0 0, .int .i64 0, .slice none 0 0, .int .i64 0] 30 := by subst hW1; exact Bx.new' _ _ _ _ (by simp)
  have hS : Step w W1 := by subst hW1; exact (by repeat (first | (with_reducible assumption) | (with_reducible exact Step.refl _) | (with_reducible apply Step.s_alloc) | (with_reducible apply Step.s_drew) | (with_reducible apply Step.s_drewN) | (with_reducible refine Step.trans ?_ (by with_reducible assumption))))
  have hz : W1.heap.size = w.heap.size + 2 := by subst hW1; simp
  have HB1 := Lib.hid b1
  have HB2 := Lib.hid b2
  have HS := Lib.hid hS
  have HZ := Lib.hid hz
  have H1 := Lib.hid s1
  have H2 := Lib.hid s2
  have H4 := Lib.hid s4
  have HF2 := Lib.hid f2
  have HW := Lib.hid hW1
  clear hW1 b1 b2 hS hz s1 s2 s4 hv f2
  go_enter Try.func56, Try.ntmps56
  go_wp2_with fail
  rw [show w.heap.size + 1 + 1 = w.heap.size + 2 from rfl, ← HW.out]
  have hb3 := Bx.new' W1 [.int .i64 b.agency, .slice none 0 0, .slice p2 b.off.length k2, .int .i64 b.sent, .slice p4 b.took.length k4, .int .i64 b.cash] 30 _ HZ.out
  have h30 : CopyRel w W1 b (.slice p2 b.off.length k2) (.slice p4 b.took.length k4) 0 _ _ [] :=
    ⟨hb3, OwnL.nil _ _ _ _, rfl, fun i _ hx => absurd hx (by simp), List.Pairwise.nil, Step.alloc _ _⟩
  go_loopw [4] (fun i wr => ∃ (k : Nat) (vs : Value) (xs : List Raw), k ≤ b.seats.length ∧ i = .int .i64 k ∧ CopyRel w W1 b (.slice p2 b.off.length k2) (.slice p4 b.took.length k4) k wr vs xs) (fun i _ => b.seats.length - (intOf i).toNat)
  case atStart => exact ⟨0, _, _, Nat.zero_le _, rfl, h30⟩
  case round =>
    clear hb3 h30
    obtain ⟨k, vs, xs, hk, rfl, hR⟩ := hrel
    have HA := Lib.hid hR
    clear hR
    by_cases hlt : k < b.seats.length
    · obtain ⟨p', c', bb, oo, he, _, _, hp, hc, hbb⟩ := H1.out.rows
      injection he with he1 _ he3
      subst he1 he3
      obtain rfl := hp (by omega)
      obtain ⟨u, hu1, hu2⟩ := hc k hlt
      have HU := Lib.hid (And.intro hu1 hu2)
      clear hp hc hbb hu1 hu2
      have e1 := (HS.out.trans HA.out.2.2.2.2.2).keeps.cell id HU.out.1
      have q1 := (HB1.out.step HA.out.2.2.2.2.2).cell 1
      simp only [List.getElem?_cons_zero, List.getElem?_cons_succ] at q1
      have hx : (0 : Int) ≤ (k : Int) ∧ (k : Int) < (b.seats.length : Int) := by omega
      go_upto_region 6 with (fail)
      refine wp_region_seqM (fun c d v a w h => by cases d <;> exact h) (kdOf [7, 8] []) [0, 1, 0, 4, 0, 28, 60, 124, 252, 511, 1023, 2047] [0, 1, 2, 3, 4, 5, 6, 7, 8] [9, 10, 11] (by kernel_rfl) (by kernel_rfl) (fun i T z hi hk => by simp [kdOf] at hk <;> (try (split at hk <;> cases hk))) ?_
      intro Wx hWx
      have HT := Lib.hid hWx
      clear hWx
      have c3 := (HA.out.1.step HT.out).cell 1
      have c1 := HT.out.keeps.cell id q1
      have a1 := HT.out.keeps.cell id e1
      simp only [List.getElem?_cons_zero, List.getElem?_cons_succ] at c3
      clear e1 q1
      repeat (first | (refine run_off rfl rfl (by rfl) ?_; (try simp only [Act.put, List.setIfInBounds_toArray, List.set_cons_zero, List.set_cons_succ])) | (refine run_chain_off rfl rfl (by rfl) (K0_mono _) ?_; (try simp only [Act.put, List.setIfInBounds_toArray, List.set_cons_zero, List.set_cons_succ])) | ((refine run_want rfl rfl (by rfl) ⟨?_, fun W hW => ?_, ?_⟩; rotate_left; (· (have d0 := hW.keeps.cell id c1; have d1 := hW.keeps.cell id c3; have d2 := hW.keeps.cell id a1; go_simp; (try with_reducible rfl)))); (try simp only [Act.put, List.setIfInBounds_toArray, List.set_cons_zero, List.set_cons_succ])))
      refine run_chain rfl rfl (by rfl) (fun Wi hWi K' hK' => ?_)
      have hrow := HF2.out k hlt
      obtain ⟨pu, cu, rfl⟩ := HU.out.2.form
      refine wp_append_L (α := Int) (S := fun _ => False) (base := Wi.heap.size) (v := .slice none 0 0) (l := []) (m := b.seats[k]) eiInts _ _ rfl rfl rfl (OwnL.nil _ _ _ _) ((HU.out.2.keep (.of_step ((HS.out.trans HA.out.2.2.2.2.2).trans (HT.out.trans hWi)))).flat _) b.seats[k].length (by simp) b.seats[k] rfl (by simp only [maxLen]; omega) (by omega) (Nat.le_refl _) (fun pv cv w2 hown2 hg2 => ?_)
      have hS2 : Step Wi w2 := .of ((Below.refl _ Wi).grown hg2 (Nat.le_refl _) (by simp [Value.ownBlock]))
      have HZI : Hid (wr.heap.size ≤ Wi.heap.size) := Lib.hid (HT.out.trans hWi).size
      have HT2 := Lib.hid ((HT.out.trans hWi).trans hS2)
      have HOW := Lib.hid hown2
      refine hK' _ _ hS2 ?_
      clear hK' hS2 hg2 hown2 hWi HT c1 c3 a1
      (try simp only [Act.put, List.setIfInBounds_toArray, List.set_cons_zero, List.set_cons_succ])
      refine run_chain rfl rfl (by rfl) (fun Wj hWj K'' hK'' => ?_)
      go_simp
      refine hK'' _ _ (.of (Step.alloc _ _)) ?_
      (try simp only [Act.put, List.setIfInBounds_toArray, List.set_cons_zero, List.set_cons_succ])
      refine run_end (L := [_, _, _]) rfl (fun W6 hW6 => ?_)
      have hu := (SLe.one (S := avoid (fun _ => False) vs) (w := Wj) (cs := [.slice pv b.seats[k].length cv]) (x := (⟨.slice pv b.seats[k].length cv, rfl⟩ : Raw)) 23 rfl).step hW6
      have hTj : Step w2 W6 := (hWj.trans (Step.alloc _ _)).trans hW6
      have hv6 : OwnI wr.heap.size 3 W6 (.slice pv b.seats[k].length cv) b.seats[k] := owns_mono (OwnI.of (HOW.out.step hTj)) HZI.out
      have HV6 := Lib.hid hv6
      have HT6 := Lib.hid (HT2.out.trans hTj)
      have hown := HA.out.2.1.step HT6.out
      have hlen := HA.out.2.2.1
      have hn1 : xs.length + [(⟨.slice pv b.seats[k].length cv, rfl⟩ : Raw)].length = k + 1 := by simp; exact hlen
      have hn2 : k + 1 ≤ maxLen := by simp only [maxLen]; omega
      have hn3 : W1.heap.size ≤ W6.heap.size := Nat.le_trans HA.out.2.2.2.2.2.size HT6.out.size
      clear hWj hW6 hTj hv6 HT2 hlen
      go_wp2_with (at_builtin; refine wpl_append (α := Raw) (S := fun _ => False) (base := W1.heap.size) (v := vs) (l := xs) (m := [⟨.slice pv b.seats[k].length cv, rfl⟩]) eiRows rfl _ _ rfl rfl rfl hown hu (k + 1) hn1 (xs ++ [⟨.slice pv b.seats[k].length cv, rfl⟩]) rfl hn2 (by omega) hn3 ?_)
      intro p2 c2 w2 hown4 hg4
      have hb4 := HA.out.grown HT6.out hg4
      have f6 := hb4.cell 1
      have z6 := hb4.frozen 1
      simp only [List.getElem?_cons_zero, List.getElem?_cons_succ] at f6
      have hN := Lib.hid (HA.out.next HZ.out hlt HT6.out _ HV6.out hown4 hg4)
      clear hb4 hown hu hown4 hg4 hn1 hn2 hn3
      go_wp2
      go_roundw
      case rel => exact ⟨k + 1, _, _, by omega, by go_num, hN.out⟩
      case measure => simp [intOf]; omega
    · have hkk : k = b.seats.length := by omega
      have HK := Lib.hid hkk
      clear hkk
      have HP := Lib.hid (HA.out.rows HZ.out)
      have q1 := (HB1.out.step HA.out.2.2.2.2.2).cell 1
      have q2 := (HB1.out.step HA.out.2.2.2.2.2).cell 2
      have x2 := HA.out.1.cell 2
      simp only [List.getElem?_cons_zero, List.getElem?_cons_succ] at q1 q2 x2
      have hsrc := Lib.hid ((H2.out.keep (.of_step (HS.out.trans HA.out.2.2.2.2.2))).flat (avoid (fun _ => False) (.slice none 0 0)))
      go_wp2_with (at_builtin; refine wpl_append (α := Bool) (S := fun _ => False) (base := wr.heap.size) (v := .slice none 0 0) (l := []) (m := b.off) eiBools rfl _ _ rfl rfl rfl (OwnL.nil _ _ _ _) hsrc.out b.off.length (by simp) b.off rfl ?_ ?_ (Nat.le_refl _) ?_)
      · simp only [maxLen]; omega
      · omega
      intro po co w2 hown2 hg2
      have hS2 : Step wr w2 := .of ((Below.refl _ wr).grown hg2 (Nat.le_refl _) (by simp [Value.ownBlock]))
      have hb2 := HA.out.1.step hS2
      have x2 := hb2.cell 2
      have z2 := hb2.frozen 2
      simp only [List.getElem?_cons_zero, List.getElem?_cons_succ] at x2
      have HC := Lib.hid (And.intro hS2 (And.intro hown2 hb2))
      clear hown2 hg2 hS2 hb2 hsrc q1 q2
      have hw2 := Wrote.setCell w2 (w.heap.size + 2) 2 (.slice po b.off.length co)
      have hb3 := HC.out.2.2.setCell 2 (.slice po b.off.length co)
      have hty := HC.out.2.2.ty
      have hT3 : Step W1 (w2.setCell ⟨w.heap.size + 2, 2, none⟩ (.slice po b.off.length co)) := (HA.out.2.2.2.2.2.trans HC.out.1).setNew ⟨w.heap.size + 2, 2, none⟩ _ (by have := HZ.out; show W1.heap.size ≤ w.heap.size + 2; omega)
      have hP3 := (HP.out.step HC.out.1).wrote hw2.grown hty (by decide) (by decide)
      have hO3 := owns_wrote (OwnB.of HC.out.2.1) hw2.grown hty (by decide)
      have q4 := (HB1.out.step hT3).cell 4
      simp only [List.getElem?_cons_zero, List.getElem?_cons_succ] at q4
      have hsrc := Lib.hid ((H4.out.keep (.of_step (HS.out.trans hT3))).flat (avoid (fun _ => False) (.slice none 0 0)))
      have HD := Lib.hid (And.intro hb3 (And.intro hT3 (And.intro hP3 hO3)))
      have HZW := Lib.hid (show wr.heap.size ≤ (w2.setCell ⟨w.heap.size + 2, 2, none⟩ (.slice po b.off.length co)).heap.size by have := HC.out.1.size; simp; omega)
      clear hb3 hT3 hP3 hO3 hw2 hty HC HP
      go_wp2_with (at_builtin; refine wpl_append (α := Key) (S := fun _ => False) (base := wr.heap.size) (v := .slice none 0 0) (l := []) (m := b.took) eiRefKeys rfl _ _ rfl rfl rfl (OwnL.nil _ _ _ _) hsrc.out b.took.length (by simp) b.took rfl ?_ ?_ HZW.out ?_)
      · simp only [maxLen]; omega
      · omega
      intro pt ct w4 hown4 hg4
      have hS4 : Step (w2.setCell ⟨w.heap.size + 2, 2, none⟩ (.slice po b.off.length co)) w4 := by
        have hn : Option.none = Value.ownBlock (.slice none 0 0) := rfl
        rw [← hn] at hg4
        exact ⟨hg4.os, hg4.tape, hg4.output, hg4.size, fun j hj _ => hg4.block j hj (by simp)⟩
      have hb4 := HD.out.1.step hS4
      have x4 := hb4.cell 4
      have z4 := hb4.frozen 4
      simp only [List.set_cons_zero, List.set_cons_succ, List.getElem?_cons_zero, List.getElem?_cons_succ] at x4
      have hw5 := Wrote.setCell w4 (w.heap.size + 2) 4 (.slice pt b.took.length ct)
      have hty := hb4.ty
      have hb5 := hb4.setCell 4 (.slice pt b.took.length ct)
      simp only [List.set_cons_zero, List.set_cons_succ] at hb5
      have hwz : w.heap.size ≤ wr.heap.size := by have := HA.out.2.2.2.2.2.size; have := HZ.out; omega
      have hP5 := (HD.out.2.2.1.step hS4).wrote hw5.grown hty (by decide) (by decide)
      have hO5 := owns_wrote (owns_step HD.out.2.2.2 hS4) hw5.grown hty (by decide)
      have hK5 := keys_wrote (vt := .slice pt b.took.length ct) hown4 hw5.grown hty (by decide)
      have hT5 : Step W1 (w4.setCell ⟨w.heap.size + 2, 4, none⟩ (.slice pt b.took.length ct)) := (HD.out.2.1.trans hS4).setNew ⟨w.heap.size + 2, 4, none⟩ _ (by have := HZ.out; show W1.heap.size ≤ w.heap.size + 2; omega)
      have hb2 := HB2.out.step hT5
      obtain ⟨y0, y1, y2, y3, y4, y5⟩ := cells6 hb5
      obtain ⟨g0, g1, g2, g3, g4, g5⟩ := cells6 hb2
      have tf0 := hb2.frozen 0
      have tf1 := hb2.frozen 1
      have tf2 := hb2.frozen 2
      have tf3 := hb2.frozen 3
      have tf4 := hb2.frozen 4
      have tf5 := hb2.frozen 5
      obtain ⟨pv, cv, rfl, _⟩ := owns_form hP5.outer
      have HE := Lib.hid (And.intro hb5 (And.intro hT5 (And.intro hP5 (And.intro hO5 (And.intro hK5 hb2)))))
      have HWZ := Lib.hid hwz
      clear hown4 hg4 hS4 hb4 hw5 hty hb5 hP5 hO5 hK5 hT5 hb2 hsrc HD hwz
      go_wp2
      have hb5 := set6 HE.out.2.2.2.2.2 (.int .i64 b.agency) (.slice pv k cv) (.slice po b.off.length co) (.int .i64 b.sent) (.slice pt b.took.length ct) (.int .i64 b.cash)
      have hty := HE.out.2.2.2.2.2.ty
      have hg5 := grown_of hb5.2
      have hP := HE.out.2.2.1.wrote hg5 hty (by decide) (by decide)
      have hO := owns_wrote HE.out.2.2.2.1 hg5 hty (by decide)
      have hQ := keys_wrote HE.out.2.2.2.2.1 hg5 hty (by decide)
      have hSS : Step w _ := StepX.fresh (HS.out.trans HE.out.2.1) hb5.2 (fun j hj => by have := HZ.out; omega)
      refine ret_struct (k := 6) rfl siRefBook rfl hb5.1 rfl rfl ⟨_, _, _, _, rfl, ⟨?_, hP.row, owns_mono hO HWZ.out, ?_, hP.apart⟩, hSS⟩
      · have := hP.outer
        rw [HK.out] at this ⊢
        exact this
      · obtain ⟨ys, h1, h2⟩ := hQ
        exact ⟨ys, owns_mono h1 HWZ.out, h2⟩
end Go.Proofs.Ytbgfmikbhiblgaa
/- Walks: the reference's Sells. -/
namespace Go.Proofs.Ytbgfmikbhiblgaa
set_option linter.unusedSimpArgs false
set_option linter.unusedVariables false
open Go.RowKit Go.BT

/-- What is read of a show, in a house and a book handed by value. -/
theorem show_av {S T : Nat → Prop} {w : World} {h : House} {b : Book} {c2 c3 d2 : Value} (r2 : SL S w c2 h.dates) (r3 : SL S w c3 h.frm) (s2 : SL T w d2 b.off) (hO : OkDesk h b) {i : Nat} (hi : i < h.dates.length) :
    ∃ bo oo ko bf of kf bg og kg bd od kd ag : Nat, d2 = .slice (some ⟨bo, oo, none⟩) b.off.length ko ∧ c3 = .slice (some ⟨bf, of, none⟩) h.frm.length kf ∧
    c2 = .slice (some ⟨bd, od, none⟩) h.dates.length kd ∧ b.agency = ag ∧ w.cell? ⟨bo, oo + i, none⟩ = some (.bool (offAt b i)) ∧ w.cell? ⟨bf, of + i, none⟩ = some (.slice (some ⟨bg, og, none⟩) (agN h) kg) ∧ w.cell? ⟨bg, og + ag, none⟩ = some (.int .i64 (fromAt h i b.agency)) ∧
    w.cell? ⟨bd, od + i, none⟩ = some (.int .i64 (dateAt h i)) ∧ i < b.off.length ∧ i < h.frm.length ∧ ag < agN h := by
  have hbv := bounds_valid hO.1
  have hio : i < b.off.length := by have := hO.2.1; omega
  have hif : i < h.frm.length := by omega
  have hag0 := hO.2.2.2.2.1
  have hag1 := hO.2.2.2.2.2.1
  obtain ⟨ag, hag⟩ : ∃ ag : Nat, b.agency = ag := ⟨b.agency.toNat, by omega⟩
  have hagf : ag < h.frm[i].length := by rw [from_row hO.1 hif]; omega
  obtain ⟨po, ko, bo, oo, rfl, _, _, hpo, hco, hbo⟩ := s2.bools
  obtain rfl := hpo (by omega)
  obtain ⟨pf, kf, bf, of, rfl, _, _, hpf, hcf, hbf⟩ := r3.rows
  obtain rfl := hpf (by omega)
  obtain ⟨fv, hfc, hfs⟩ := hcf i hif
  obtain ⟨pg, kg, bg, og, rfl, _, _, hpg, hcg, hbg⟩ := hfs.ints
  obtain rfl := hpg (by omega)
  obtain ⟨pd, kd, bd, od, rfl, _, _, hpd, hcd, hbd⟩ := r2.ints
  obtain rfl := hpd (by omega)
  have hrow := from_row hO.1 hif
  refine ⟨bo, oo, ko, bf, of, kf, bg, og, kg, bd, od, kd, ag, rfl, rfl, rfl, hag, ?_, ?_, ?_, ?_, hio, hif, by omega⟩
  · rw [hco i hio]; simp [offAt, List.getD_eq_getElem?_getD, hio]
  · rw [hfc, hrow]
  · rw [hcg ag hagf]; rw [hag]; simp [fromAt, List.getD_eq_getElem?_getD, hif, hagf]
  · rw [hcd i hi]; simp [dateAt, List.getD_eq_getElem?_getD, hi]

set_option maxHeartbeats 2000000 in
theorem Sells_any (S T : Nat → Prop) (h : House) (b : Book) (v u : Value) (w : World) (hv : AV S w v h) (hu : AV T w u b) (hO : OkDesk h b) (i : Nat) (hi : i < h.dates.length) (d : Int) :
    Calls Try.prog 57 #[v, u, .int .i64 i, .int .i64 d] w fun e w' => e = .returned (.bool (sellsB h b i d)) ∧ Step w w' := by
  obtain ⟨c0, c1, c2, c3, c4, rfl, h0, h1, h2, h3, h4⟩ := hv.house
  obtain ⟨d1, d2, d4, rfl, s1, s2, s4⟩ := hu.book
  obtain ⟨bo, oo, ko, bf, of, kf, bg, og, kg, bd, od, kd, ag, rfl, rfl, rfl, hag, m0, m1, m2, m3, hio, hif, hagl⟩ := show_av h2 h3 s2 hO hi
  obtain ⟨p0, k0, rfl⟩ := h0.form
  obtain ⟨p1, k1, rfl⟩ := h1.form
  obtain ⟨p4, k4, rfl⟩ := h4.form
  obtain ⟨q1, m1', rfl⟩ := s1.form
  obtain ⟨q4, m4, rfl⟩ := s4.form
  have hx1 : (0 : Int) ≤ (i : Int) ∧ (i : Int) < (b.off.length : Int) := by omega
  have hx4 : (0 : Int) ≤ (i : Int) ∧ (i : Int) < (h.frm.length : Int) := by omega
  have hx5 : (0 : Int) ≤ (ag : Int) ∧ (ag : Int) < (agN h : Int) := by omega
  have hx6 : (0 : Int) ≤ (i : Int) ∧ (i : Int) < (h.dates.length : Int) := by omega
  obtain ⟨W0, hW0⟩ : ∃ W0, W0 = (w.alloc (.cells #[.slice p0 h.sectors.length k0, .slice p1 h.prices.length k1, .slice (some ⟨bd, od, none⟩) h.dates.length kd, .slice (some ⟨bf, of, none⟩) h.frm.length kf, .slice p4 h.holds.length k4] 26)).alloc (.cells #[.int .i64 b.agency, .slice q1 b.seats.length m1', .slice (some ⟨bo, oo, none⟩) b.off.length ko, .int .i64 b.sent, .slice q4 b.took.length m4, .int .i64 b.cash] 30) := ⟨_, rfl⟩
  have hbx : Bx W0 w.heap.size [.slice p0 h.sectors.length k0, .slice p1 h.prices.length k1, .slice (some ⟨bd, od, none⟩) h.dates.length kd, .slice (some ⟨bf, of, none⟩) h.frm.length kf, .slice p4 h.holds.length k4] 26 := by subst hW0; exact (Bx.new _ _ _).alloc _
  have hb2 : Bx W0 (w.heap.size + 1) [.int .i64 b.agency, .slice q1 b.seats.length m1', .slice (some ⟨bo, oo, none⟩) b.off.length ko, .int .i64 b.sent, .slice q4 b.took.length m4, .int .i64 b.cash] 30 := by subst hW0; exact Bx.new' _ _ _ _ (by simp)
  have hS : Step w W0 := by subst hW0; exact (by repeat (first | (with_reducible assumption) | (with_reducible exact Step.refl _) | (with_reducible apply Step.s_alloc) | (with_reducible apply Step.s_drew) | (with_reducible apply Step.s_drewN) | (with_reducible refine Step.trans ?_ (by with_reducible assumption))))
  have HB1 := Lib.hid hbx
  have HB2 := Lib.hid hb2
  have HS := Lib.hid hS
  have HM := Lib.hid (And.intro m0 (And.intro m1 (And.intro m2 m3)))
  have HAG := Lib.hid hag
  have HW := Lib.hid hW0
  clear hv hu hO m0 m1 m2 m3 hag hbx hb2 hS hW0 h0 h1 h2 h3 h4 s1 s2 s4
  go_enter Try.func57, Try.ntmps57
  go_upto_region 1 with (fail)
  rw [← HW.out]
  refine wp_region_seq (kdOf [22] []) [0, 1, 0, 7, 15, 31, 63, 127, 127, 383, 127, 1919, 3967, 127, 8319, 32639, 65407, 127, 131199, 127, 917631, 1966207, 4194303, 8388607, 16777215] [0, 1, 2, 3, 4, 5, 6, 7, 8, 9, 10, 11, 12, 13, 14, 15, 16, 17, 18, 19, 20, 21, 22, 23, 24] [] (by kernel_rfl) (by kernel_rfl) (fun i T z hi hk => by simp [kdOf] at hk <;> (try (split at hk <;> cases hk))) ?_
  intro Wx hWx
  have HT := Lib.hid hWx
  clear hWx
  (try clear e0 e1 e2 e3 e4 f0 f1 f2 f3 f4 f5 y1 y2)
  obtain ⟨e0, e1, e2, e3, e4⟩ := cells5 (HB1.out.step HT.out)
  obtain ⟨f0, f1, f2, f3, f4, f5⟩ := cells6 (HB2.out.step HT.out)
  have y1 := (HB1.out.step HT.out).lt
  have y2 := (HB2.out.step HT.out).lt
  rw [HAG.out] at f0
  have m0 := (HS.out.trans HT.out).keeps.cell id HM.out.1
  have m1 := (HS.out.trans HT.out).keeps.cell id HM.out.2.1
  have m2 := (HS.out.trans HT.out).keeps.cell id HM.out.2.2.1
  have m3 := (HS.out.trans HT.out).keeps.cell id HM.out.2.2.2
  cases q : offAt b i with
  | true =>
    rw [q] at m0
    have HF := Lib.hid (show sellsB h b i d = false by simp [sellsB, q])
    clear q
    repeat (first | (refine run_off rfl rfl (by rfl) ?_; (try simp only [Act.put, List.setIfInBounds_toArray, List.set_cons_zero, List.set_cons_succ])) | (refine run_chain_off rfl rfl (by rfl) (K0_mono _) ?_; (try simp only [Act.put, List.setIfInBounds_toArray, List.set_cons_zero, List.set_cons_succ])) | ((refine run_want rfl rfl (by rfl) ⟨?_, fun W hW => ?_, ?_⟩; rotate_left; (· (have d0 := hW.keeps.cell id f2; have d1 := hW.keeps.cell id m0; go_simp; (try with_reducible rfl)))); (try simp only [Act.put, List.setIfInBounds_toArray, List.set_cons_zero, List.set_cons_succ])))
    refine run_end (L := []) rfl (fun W6 hW6 => ?_)
    have HT6 := Lib.hid (HT.out.trans hW6)
    clear hW6 HT
    have HT := HT6
    clear HT6
    go_wp2
    go_ret
    exact ⟨by rw [HF.out]; rfl, HS.out.trans HT.out⟩
  | false =>
    rw [q] at m0
    have HF := Lib.hid (show sellsB h b i d = withinB d (fromAt h i b.agency) (dateAt h i) by simp [sellsB, q])
    clear q
    repeat (first | (refine run_off rfl rfl (by rfl) ?_; (try simp only [Act.put, List.setIfInBounds_toArray, List.set_cons_zero, List.set_cons_succ])) | (refine run_chain_off rfl rfl (by rfl) (K0_mono _) ?_; (try simp only [Act.put, List.setIfInBounds_toArray, List.set_cons_zero, List.set_cons_succ])) | ((refine run_want rfl rfl (by rfl) ⟨?_, fun W hW => ?_, ?_⟩; rotate_left; (· (have d0 := hW.keeps.cell id f2; have d1 := hW.keeps.cell id m0; have d2 := hW.keeps.cell id e3; have d3 := hW.keeps.cell id m1; have d4 := hW.keeps.cell id f0; have d5 := hW.keeps.cell id m2; have d6 := hW.keeps.cell id e2; have d7 := hW.keeps.cell id m3; go_simp; (try with_reducible rfl)))); (try simp only [Act.put, List.setIfInBounds_toArray, List.set_cons_zero, List.set_cons_succ])))
    refine run_chain rfl rfl (by rfl) (fun Wi hWi K' hK => ?_)
    have HTi := Lib.hid (HT.out.trans hWi)
    have HZW := Lib.hid HTi.out.size
    clear hWi HT
    go_simp
    refine (In_st _ _ _ _).mono ?_
    rintro e wn ⟨rfl, hSn⟩
    have HT := Lib.hid (HTi.out.trans (StepX.of hSn))
    clear HTi
    refine hK _ _ (StepX.of hSn) ?_
    clear hSn
    (try simp only [Act.put, List.setIfInBounds_toArray, List.set_cons_zero, List.set_cons_succ])
    repeat (first | (refine run_off rfl rfl (by rfl) ?_; (try simp only [Act.put, List.setIfInBounds_toArray, List.set_cons_zero, List.set_cons_succ])) | (refine run_chain_off rfl rfl (by rfl) (K0_mono _) ?_; (try simp only [Act.put, List.setIfInBounds_toArray, List.set_cons_zero, List.set_cons_succ])) | ((refine run_want rfl rfl (by rfl) ⟨?_, fun W hW => ?_, ?_⟩; rotate_left; (· (skip; go_simp; (try with_reducible rfl)))); (try simp only [Act.put, List.setIfInBounds_toArray, List.set_cons_zero, List.set_cons_succ])))
    refine run_end (L := []) rfl (fun W6 hW6 => ?_)
    have HT6 := Lib.hid (HT.out.trans hW6)
    clear hW6 HT
    have HT := HT6
    clear HT6
    go_wp2
    go_ret
    exact ⟨by rw [HF.out]; rfl, HS.out.trans HT.out⟩
end Go.Proofs.Ytbgfmikbhiblgaa
