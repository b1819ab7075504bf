/- The desk on which a book is worked, and the sale of a seat, are walked. -/
import Derived.Test.YtbgfmikbhiblgaaMa
import Derived.Test.YtbgfmikbhiblgaaMc
import Derived.Test.YtbgfmikbhiblgaaMd
import Derived.Test.YtbgfmikbhiblgaaRows
import Derived.BigQuiet
import Derived.Deep.AppendLies
import Derived.Deep.DeepCutAuto
import Derived.Deep.QuietTactic
import Derived.Deep.RegionHeld3
import Derived.Defers
import Derived.Laws.MakeOwn
import Derived.Laws.OwnMore
import Derived.Laws.Pointers
import Derived.Laws.StructEq
import Derived.Lib.Hide
import Derived.Recover
import Derived.Shelf.Abstract
import Derived.WalkKit
import Derived.WalkLawsBesides
import Derived.WalkSmall
import Derived.WalkSpells
import Derived.WideKeyRuns
/- Rows of the call's own that are written in place; a desk: a house and a book that is worked on. -/
namespace Go.Proofs.Ytbgfmikbhiblgaa
set_option linter.unusedSimpArgs false
set_option linter.unusedVariables false
open Go.RowKit Go.BT

/-- A row of the call's own that reads as numbers. -/
def OwnI (base : Nat) (e : TypeId) (w : World) (v : Value) (l : List Int) : Prop := w.ownsRow base e 1 v l.length (l.map (Value.int .i64))
def OwnB (base : Nat) (e : TypeId) (w : World) (v : Value) (l : List Bool) : Prop := w.ownsRow base e 1 v l.length (l.map Value.bool)

theorem map_of_drops {α : Type} {f : α → Value} {xs : List Value} {l : List α} (hl : xs.length = l.length * 1) (hr : ∀ i (h : i < l.length), (xs.drop (i * 1)).take 1 = [f l[i]]) : xs = l.map f := by
  apply List.ext_getElem
  · simpa using hl
  · intro i h1 h2
    have hi : i < l.length := by simpa using h2
    have := hr i hi
    rw [Nat.mul_one, List.drop_eq_getElem_cons h1, List.take_succ_cons, List.take_zero] at this
    rw [List.getElem_map]
    exact List.head_eq_of_cons_eq this
theorem _root_.Go.BT.OwnL.flat {α : Type} [Flat α] {S : Nat → Prop} (T : Nat → Prop) {base : Nat} {e : TypeId} {w : World} {v : Value} {l : List α} (h : OwnL S base e w v l) : OwnL T base e w v l := by
  obtain ⟨xs, ho, hr⟩ := h; exact ⟨xs, ho, fun i hi => Flat.flat (hr i hi)⟩
/-- A finished row reads as a list. -/
theorem _root_.Go.BT.OwnL.slb {α : Type} [Rep α] {S : Nat → Prop} {base : Nat} {e : TypeId} {w : World} {v : Value} {l : List α} (h : OwnL S base e w v l) (hs : ∀ g, v.ownBlock = some g → ¬ S g) : SL S w v l := by
  have hm : l.length ≤ 9223372036854775807 := by obtain ⟨_, _, _, hm, _⟩ := h.form; simp only [maxLen] at hm; omega
  have hlt := h.lt
  obtain ⟨xs, h', hr⟩ := h
  have h := h'.2
  rcases h with ⟨rfl, h0⟩ | ⟨g, cap, cur, rfl, hb, hg, hle, hcap, hsz, htk⟩
  · have : l = [] := List.eq_nil_of_length_eq_zero h0
    subst this; exact SL.nil S w
  · refine ⟨_, cap, g, 0, rfl, hle, hm, fun _ => rfl, fun i hi => ⟨(hlt g rfl).2, hs g rfl, _, Rep.weak (fun j _ hj => .inl hj) (hr i hi), fun j u hj => ?_⟩⟩
    have hj' : (xs.drop (i * Rep.k α))[j]? = some u := by
      rw [List.getElem?_take] at hj; split at hj
      · exact hj
      · cases hj
    rw [List.getElem?_drop] at hj'
    have := h'.cells (g := g) (by simp [Value.ownBlock]) (i * Rep.k α + j) u hj'
    rw [Addr.add_lit] at this
    simpa using this
theorem _root_.Go.BT.OwnL.keptF {α : Type} [Flat α] {S : Nat → Prop} {base : Nat} {e : TypeId} {w w' : World} {v : Value} {l : List α} (h : OwnL S base e w v l) (hrow : ∀ g, v.ownBlock = some g → w'.heap[g]? = w.heap[g]?) : OwnL S base e w' v l := by
  obtain ⟨xs, ⟨hl, ho⟩, hr⟩ := h
  refine ⟨xs, ⟨hl, ?_⟩, fun i hi => Flat.flat (hr i hi)⟩
  rcases ho with hn | ⟨g, cap, cur, rfl, hb, hg, r⟩
  · exact .inl hn
  · exact .inr ⟨g, cap, cur, rfl, hb, by rw [hrow g rfl]; exact hg, r⟩
section
variable {S : Nat → Prop} {base : Nat} {e : TypeId} {w w' : World} {v : Value}
theorem OwnI.of {l : List Int} (h : OwnL S base e w v l) : OwnI base e w v l := by
  obtain ⟨xs, ho, hr⟩ := h
  have : xs = l.map (Value.int .i64) := map_of_drops ho.1 fun i hi => hr i hi
  subst this
  exact ho
theorem OwnB.of {l : List Bool} (h : OwnL S base e w v l) : OwnB base e w v l := by
  obtain ⟨xs, ho, hr⟩ := h
  have : xs = l.map Value.bool := map_of_drops ho.1 fun i hi => hr i hi
  subst this
  exact ho
theorem OwnI.own {l : List Int} (h : OwnI base e w v l) : OwnL S base e w v l := by
  refine ⟨_, h, fun i hi => ?_⟩
  show ((l.map (Value.int .i64)).drop (i * 1)).take 1 = [_]
  rw [Nat.mul_one, List.drop_eq_getElem_cons (by simpa using hi)]
  simp
theorem OwnB.own {l : List Bool} (h : OwnB base e w v l) : OwnL S base e w v l := by
  refine ⟨_, h, fun i hi => ?_⟩
  show ((l.map Value.bool).drop (i * 1)).take 1 = [_]
  rw [Nat.mul_one, List.drop_eq_getElem_cons (by simpa using hi)]
  simp
/-- Not empty: its block, its cells. -/
theorem owns_at {xs : List Value} {n : Nat} (h : w.ownsRow base e 1 v n xs) (hn : 0 < n) : ∃ g c, v = .slice (some ⟨g, 0, none⟩) n c ∧ n ≤ c ∧ base ≤ g ∧ g < w.heap.size ∧ (∀ j, j < n → w.cell? ⟨g, j, none⟩ = xs[j]?) ∧ (∀ j, w.frozen? ⟨g, j, none⟩ = false) := by
  rcases h.2 with ⟨_, h0⟩ | ⟨g, cap, cur, rfl, hb, hg, hnc, r⟩
  · omega
  · exact ⟨g, cap, rfl, hnc, hb, (Array.getElem?_eq_some_iff.1 hg).1, fun j hj => h.cellAt j (by omega), fun j => h.frozenAt j⟩
theorem owns_form {xs : List Value} {n : Nat} (h : w.ownsRow base e 1 v n xs) : ∃ p c, v = .slice p n c ∧ n ≤ c ∧ n ≤ maxLen := by
  rcases h.2 with ⟨rfl, h0⟩ | ⟨g, cap, cur, rfl, _, _, hle, hcap, _⟩
  · exact ⟨none, 0, by rw [h0], by omega, by rw [h0]; exact Nat.zero_le _⟩
  · exact ⟨_, cap, rfl, hle, Nat.le_trans hle hcap⟩
end

/-- Which blocks are whose: no two of these values own one block. -/
def Apart (l : List Value) : Prop := l.Pairwise fun a b => ∀ k, a.ownBlock = some k → b.ownBlock ≠ some k
def blk (g : Nat) : Value := .slice (some ⟨g, 0, none⟩) 0 0
theorem own_blk (g : Nat) : (blk g).ownBlock = some g := rfl

structure Desk (base : Nat) (w : World) (g : Nat) (h : House) (b : Book) (c0 c1 c2 c3 c4 vs vo vt : Value) (xs : List Value) : Prop where
  bx : Bx w g [c0, c1, c2, c3, c4, .int .i64 b.agency, vs, vo, .int .i64 b.sent, vt, .int .i64 b.cash] 155
  gb : base ≤ g
  house : Rep.rep (fun j => base ≤ j) w [c0, c1, c2, c3, c4] h
  outer : w.ownsRow base 23 1 vs b.seats.length xs
  row : ∀ i (hi : i < b.seats.length) (hx : i < xs.length), OwnI base 3 w xs[i] b.seats[i]
  off : OwnB base 4 w vo b.off
  took : OwnL (fun _ => False) base 124 w vt b.took
  apart : Apart (blk g :: vs :: vo :: vt :: xs)

section
variable {base : Nat} {w w' : World} {g : Nat} {h : House} {b : Book} {c0 c1 c2 c3 c4 vs vo vt : Value} {xs : List Value}
theorem Desk.len (D : Desk base w g h b c0 c1 c2 c3 c4 vs vo vt xs) : xs.length = b.seats.length := by have := D.outer.1; omega
theorem Desk.lt (D : Desk base w g h b c0 c1 c2 c3 c4 vs vo vt xs) : g < w.heap.size := D.bx.lt
/-- The heap's end lies behind the base. -/
theorem Desk.step (D : Desk base w g h b c0 c1 c2 c3 c4 vs vo vt xs) (hs : Step w w') : Desk base w' g h b c0 c1 c2 c3 c4 vs vo vt xs :=
  have hg : w.grownBy w' none := ⟨hs.os, hs.tape, hs.output, hs.size, fun k hk _ => hs.block k hk id⟩
  { bx := D.bx.step hs, gb := D.gb, house := Rep.keep (.of_step hs) D.house, outer := D.outer.kept hg (by cases hv : vs.ownBlock <;> simp), row := fun i hi hx => (D.row i hi hx).kept hg (by cases hv : (xs[i]).ownBlock <;> simp),
    off := D.off.kept hg (by cases hv : vo.ownBlock <;> simp), took := D.took.step hs, apart := D.apart }
theorem keeps_of_wrote {k : Nat} (hw : Wrote k w w') (hk : base ≤ k) : Keeps (fun j => base ≤ j) w w' := .wrote hw hk
/-- What is not in the block that was written. -/
theorem ne_of {v : Value} {k : Nat} (h : v.ownBlock ≠ some k) : v.ownBlock = none ∨ v.ownBlock ≠ some k := .inr h

theorem Apart.at {l : List Value} (ha : Apart l) {i j : Nat} (hi : i < l.length) (hj : j < l.length) (hne : i ≠ j) {k : Nat} (hk : l[i].ownBlock = some k) : l[j].ownBlock ≠ some k := by
  have := List.pairwise_iff_getElem.1 ha
  rcases Nat.lt_or_gt_of_ne hne with h1 | h1
  · exact this i j hi hj h1 k hk
  · intro he
    exact this j i hj hi h1 k he hk

/-- The desk's own variable is written. -/
theorem Desk.setBook (D : Desk base w g h b c0 c1 c2 c3 c4 vs vo vt xs) (hw : Wrote g w w') (b' : Book) (e1 : b'.seats = b.seats) (e2 : b'.off = b.off) (e3 : b'.took = b.took)
    (hb : Bx w' g [c0, c1, c2, c3, c4, .int .i64 b'.agency, vs, vo, .int .i64 b'.sent, vt, .int .i64 b'.cash] 155) : Desk base w' g h b' c0 c1 c2 c3 c4 vs vo vt xs :=
  have hn : ∀ i (hi : i < (blk g :: vs :: vo :: vt :: xs).length), i ≠ 0 → ((blk g :: vs :: vo :: vt :: xs)[i]).ownBlock ≠ some g := fun i hi h0 => D.apart.at (i := 0) (by simp) hi (Ne.symm h0) rfl
  { bx := hb, gb := D.gb, house := Rep.keep (keeps_of_wrote hw D.gb) D.house, outer := by rw [e1]; exact D.outer.kept hw.grown (.inr (hn 1 (by simp) (by simp))),
    row := fun i hi hx => by
      have hi' : i < b.seats.length := by rw [← e1]; exact hi
      have he : b'.seats[i] = b.seats[i] := by simp [e1]
      rw [he]
      exact (D.row i hi' hx).kept hw.grown (.inr (hn (i + 4) (by simp; omega) (by simp)))
    off := by rw [e2]; exact D.off.kept hw.grown (.inr (hn 2 (by simp) (by simp))),
    took := by
      rw [e3]
      exact D.took.keptF (fun k hk => hw.block k (fun e => hn 3 (by simp) (by simp) (e ▸ hk)))
    apart := D.apart }
def putSeat (b : Book) (i j : Nat) (x : Int) : Book := { b with seats := b.seats.set i ((b.seats.getD i []).set j x) }
/-- A seat is written. -/
theorem Desk.setSeat (D : Desk base w g h b c0 c1 c2 c3 c4 vs vo vt xs) {i j gi : Nat} {c : Nat} (hi : i < b.seats.length) (hx : i < xs.length) (hv : xs[i] = .slice (some ⟨gi, 0, none⟩) b.seats[i].length c) (x : Int) :
    Desk base (w.setCell ⟨gi, j, none⟩ (.int .i64 x)) g h (putSeat b i j x) c0 c1 c2 c3 c4 vs vo vt xs ∧ base ≤ gi := by
  have hrow := D.row i hi hx
  have hown : xs[i].ownBlock = some gi := by rw [hv]; rfl
  have hgi : base ≤ gi := (hrow.lt _ hown).1
  have hw : Wrote gi w (w.setCell ⟨gi, j, none⟩ (.int .i64 x)) := Wrote.setCell w gi j _
  have hn : ∀ k (hk : k < (blk g :: vs :: vo :: vt :: xs).length), k ≠ i + 4 → ((blk g :: vs :: vo :: vt :: xs)[k]).ownBlock ≠ some gi := fun k hk h0 => D.apart.at (i := i + 4) (by simp; omega) hk (Ne.symm h0) (by simpa using hown)
  have hg0 : g ≠ gi := fun e => hn 0 (by simp) (by omega) (by rw [← e]; rfl)
  have hgd : b.seats.getD i [] = b.seats[i] := by simp [List.getD_eq_getElem?_getD, hi]
  refine ⟨⟨D.bx.keep hw.keeps hg0, D.gb, Rep.keep (keeps_of_wrote hw hgi) D.house, ?_, fun k hk hkx => ?_, D.off.kept hw.grown (.inr (hn 2 (by simp) (by omega))), D.took.keptF (fun k hk => hw.block k (fun e => hn 3 (by simp) (by omega) (e ▸ hk))), D.apart⟩, hgi⟩
  · have := D.outer.kept hw.grown (.inr (hn 1 (by simp) (by omega)))
    simpa [putSeat] using this
  · have hk' : k < b.seats.length := by simpa [putSeat] using hk
    by_cases hki : k = i
    · subst hki
      have he : (putSeat b k j x).seats[k] = b.seats[k].set j x := by simp [putSeat, List.getElem?_eq_getElem hk']
      rw [he]
      unfold OwnI at hrow ⊢
      rw [hv] at hrow ⊢
      have := (World.ownsRow.stored hrow j (.int .i64 x)).1
      rw [List.length_set, List.map_set]
      exact this
    · have he : (putSeat b i j x).seats[k] = b.seats[k] := by simp only [putSeat]; rw [List.getElem_set_ne (Ne.symm hki)]
      rw [he]
      exact (D.row k hk' hkx).kept hw.grown (.inr (hn (k + 4) (by simp; omega) (by omega)))
/-- A show is taken off. -/
theorem Desk.setOff (D : Desk base w g h b c0 c1 c2 c3 c4 vs vo vt xs) {i go : Nat} {c : Nat} (hv : vo = .slice (some ⟨go, 0, none⟩) b.off.length c) (x : Bool) :
    Desk base (w.setCell ⟨go, i, none⟩ (.bool x)) g h { b with off := b.off.set i x } c0 c1 c2 c3 c4 vs vo vt xs ∧ base ≤ go := by
  have hown : vo.ownBlock = some go := by rw [hv]; rfl
  have hgo : base ≤ go := (D.off.lt _ hown).1
  have hw : Wrote go w (w.setCell ⟨go, i, none⟩ (.bool x)) := Wrote.setCell w go i _
  have hn : ∀ k (hk : k < (blk g :: vs :: vo :: vt :: xs).length), k ≠ 2 → ((blk g :: vs :: vo :: vt :: xs)[k]).ownBlock ≠ some go := fun k hk h0 => D.apart.at (i := 2) (by simp) hk (Ne.symm h0) (by simpa using hown)
  have hg0 : g ≠ go := fun e => hn 0 (by simp) (by omega) (by rw [← e]; rfl)
  refine ⟨⟨D.bx.keep hw.keeps hg0, D.gb, Rep.keep (keeps_of_wrote hw hgo) D.house, D.outer.kept hw.grown (.inr (hn 1 (by simp) (by omega))), fun k hk hkx => (D.row k hk hkx).kept hw.grown (.inr (hn (k + 4) (by simp; omega) (by omega))), ?_, D.took.keptF (fun k hk => hw.block k (fun e => hn 3 (by simp) (by omega) (e ▸ hk))), D.apart⟩, hgo⟩
  have hoff := D.off
  unfold OwnB at hoff ⊢
  rw [hv] at hoff ⊢
  have := (World.ownsRow.stored hoff i (.bool x)).1
  simpa [List.map_set] using this
/-- The book of a desk, handed out. -/
theorem Desk.book (D : Desk base w g h b c0 c1 c2 c3 c4 vs vo vt xs) {S : Nat → Prop} (hS : ∀ j, base ≤ j → ¬ S j) : Rep.rep S w [.int .i64 b.agency, vs, vo, .int .i64 b.sent, vt, .int .i64 b.cash] b := by
  have hk : ∀ j, base ≤ j → j < w.heap.size → ¬ S j := fun j h _ => hS j h
  refine ⟨vs, vo, vt, rfl, ?_, (OwnL.sl (S := S) D.off.own hk), OwnL.sl (S := S) (D.took.flat S) hk⟩
  have hl := D.len
  have : OwnL S base 23 w vs b.seats := by
    refine ⟨xs, D.outer, fun i hi => ⟨xs[i]'(by omega), ?_, OwnL.slb (S := avoid S vs) (D.row i hi (by omega)).own fun k hq ha => ?_⟩⟩
    · show (xs.drop (i * 1)).take 1 = _
      rw [Nat.mul_one, List.drop_eq_getElem_cons (by omega), List.take_succ_cons, List.take_zero]
    · rcases ha with ha | ha
      · exact hk k ((D.row i hi (by omega)).lt k hq).1 ((D.row i hi (by omega)).lt k hq).2 ha
      · exact D.apart.at (i := 1) (j := i + 4) (by simp) (by simp; omega) (by omega) (by simpa using ha) (by simpa using hq)
  exact this.sl hk
end
end Go.Proofs.Ytbgfmikbhiblgaa
/- Walks: check, ask; what a desk refuses. -/
namespace Go.Proofs.Ytbgfmikbhiblgaa
set_option linter.unusedSimpArgs false
set_option linter.unusedVariables false
open Go.RowKit Go.BT

/-- A panic that refuses an act. -/
def refusal (c : Int) : List PanicEntry := [{ v := .iface 151 (.agg #[.int .i64 c]), recovered := false }]
theorem ask_yes (c : Int) (w : World) : Calls Try.prog 80 #[.bool true, .int .i64 c] w fun e w' => e = .returned (.tuple #[]) ∧ Step w w' := by
  go_enter Try.func80, Try.ntmps80
  go_wp2
  go_end0
  exact ⟨rfl, Step.refl _⟩
theorem ask_no (c : Int) (w : World) : Calls Try.prog 80 #[.bool false, .int .i64 c] w fun e w' => e = .panicked (refusal c) ∧ Step w w' := by
  go_enter Try.func80, Try.ntmps80
  go_wp2
  exact ⟨rfl, rfl, Step.refl _⟩
def checkR (h : House) (b : Book) : Int := if valid h && bookB h b then 0 else 1
set_option maxHeartbeats 1000000 in
theorem check_any (S : Nat → Prop) (h : House) (b : Book) (v u : Value) (w : World) (hv : AV S w v h) (hu : AV S w u b) :
    Calls Try.prog 65 #[v, u] w fun e w' => e = .returned (.int .i64 (checkR h b)) ∧ Step w w' := by
  obtain ⟨cs, rfl, hr⟩ := hv
  have hr0 := hr
  obtain ⟨c0, c1, c2, c3, c4, rfl, h0, h1, h2, h3, h4⟩ := hr
  obtain ⟨cs, rfl, hq⟩ := hu
  have hq0 := hq
  obtain ⟨d1, d2, d4, rfl, s1, s2, s4⟩ := hq
  have hS : Step w ((w.alloc (.cells #[c0, c1, c2, c3, c4] 43)).alloc (.cells #[.int .i64 b.agency, d1, d2, .int .i64 b.sent, d4, .int .i64 b.cash] 36)) := (by repeat (first | (with_reducible assumption) | (with_reducible exact Step.refl _) | (with_reducible apply Step.s_alloc) | (with_reducible apply Step.s_drew) | (with_reducible apply Step.s_drewN) | (with_reducible refine Step.trans ?_ (by with_reducible assumption))))
  obtain ⟨p0, k0, rfl⟩ := h0.form
  obtain ⟨p1, k1, rfl⟩ := h1.form
  obtain ⟨p2, k2, rfl⟩ := h2.form
  obtain ⟨p3, k3, rfl⟩ := h3.form
  obtain ⟨p4, k4, rfl⟩ := h4.form
  obtain ⟨q1, m1, rfl⟩ := s1.form
  obtain ⟨q2, m2, rfl⟩ := s2.form
  obtain ⟨q4, m4, rfl⟩ := s4.form
  have HS := Lib.hid hS
  have HR := Lib.hid (Rep.keep (.of_step hS) hr0)
  have HQ := Lib.hid (Rep.keep (.of_step hS) hq0)
  clear hS hr0 hq0 h0 h1 h2 h3 h4 s1 s2 s4
  go_enter Try.func65, Try.ntmps65
  go_wp2_with fail
  refine (valid_any S h _ _ ⟨_, rfl, HR.out⟩).mono ?_
  rintro e wn ⟨rfl, hSn⟩
  have HT := Lib.hid hSn
  clear hSn
  cases q : valid h with
  | false =>
    have hfin : checkR h b = 1 := by simp [checkR, q]
    have HF := Lib.hid hfin
    clear q hfin
    go_wp2
    go_ret
    exact ⟨by rw [HF.out]; rfl, HS.out.trans HT.out⟩
  | true =>
  have Q := Lib.hid q
  clear q
  obtain ⟨hc'', hf''⟩ := HT.out.cells
  go_wp2_with fail
  refine (book_any S h b _ _ _ ⟨_, rfl, Rep.keep (.of_step HT.out) HR.out⟩ ⟨_, rfl, Rep.keep (.of_step HT.out) HQ.out⟩ Q.out).mono ?_
  rintro e wn2 ⟨rfl, hSn⟩
  have HT2 := Lib.hid hSn
  clear hSn hc'' hf''
  cases q : bookB h b with
  | false =>
    have hfin : checkR h b = 1 := by simp [checkR, q]
    have HF := Lib.hid hfin
    clear q hfin
    go_wp2
    go_ret
    exact ⟨by rw [HF.out]; rfl, HS.out.trans (HT.out.trans HT2.out)⟩
  | true =>
    have hfin : checkR h b = 0 := by simp [checkR, q, Q.out]
    have HF := Lib.hid hfin
    clear q hfin
    go_wp2
    go_ret
    exact ⟨by rw [HF.out]; rfl, HS.out.trans (HT.out.trans HT2.out)⟩

/-- The cells of a desk. -/
theorem cells11 {w : World} {g : Nat} {c0 c1 c2 c3 c4 c5 c6 c7 c8 c9 c10 : Value} {T : TypeId} (h : Bx w g [c0, c1, c2, c3, c4, c5, c6, c7, c8, c9, c10] T) :
    (w.cell? ⟨g, 0, none⟩ = some c0 ∧ w.cell? ⟨g, 1, none⟩ = some c1 ∧ w.cell? ⟨g, 2, none⟩ = some c2 ∧ w.cell? ⟨g, 3, none⟩ = some c3 ∧ w.cell? ⟨g, 4, none⟩ = some c4) ∧
    (w.cell? ⟨g, 5, none⟩ = some c5 ∧ w.cell? ⟨g, 6, none⟩ = some c6 ∧ w.cell? ⟨g, 7, none⟩ = some c7 ∧ w.cell? ⟨g, 8, none⟩ = some c8 ∧ w.cell? ⟨g, 9, none⟩ = some c9 ∧ w.cell? ⟨g, 10, none⟩ = some c10) :=
  ⟨⟨h.cell 0, h.cell 1, h.cell 2, h.cell 3, h.cell 4⟩, h.cell 5, h.cell 6, h.cell 7, h.cell 8, h.cell 9, h.cell 10⟩
theorem rep5 {S : Nat → Prop} {w : World} {c0 c1 c2 c3 c4 : Value} {h : House} (hr : Rep.rep S w [c0, c1, c2, c3, c4] h) : SL S w c0 h.sectors ∧ SL S w c1 h.prices ∧ SL S w c2 h.dates ∧ SL S w c3 h.frm ∧ SL S w c4 h.holds := by
  obtain ⟨_, _, _, _, _, he, x0, x1, x2, x3, x4⟩ := hr
  injection he with e0 he
  injection he with e1 he
  injection he with e2 he
  injection he with e3 he
  injection he with e4 _
  exact ⟨e0 ▸ x0, e1 ▸ x1, e2 ▸ x2, e3 ▸ x3, e4 ▸ x4⟩

section
variable {base : Nat} {w : World} {g : Nat} {h : House} {b : Book} {c0 c1 c2 c3 c4 vs vo vt : Value} {xs : List Value}
set_option maxHeartbeats 1000000 in
theorem show_yes (D : Desk base w g h b c0 c1 c2 c3 c4 vs vo vt xs) (n : Int) (hn : withinB n 0 (h.dates.length - 1) = true) :
    Calls Try.prog 79 #[.pointer (some ⟨g, 0, none⟩), .int .i64 n] w fun e w' => e = .returned (.tuple #[]) ∧ Step w w' := by
  obtain ⟨⟨f0, f1, f2, f3, f4⟩, _⟩ := cells11 D.bx
  obtain ⟨p2, k2, rfl⟩ := (rep5 D.house).2.2.1.form
  have hl := (rep5 D.house).2.2.1.len
  have HN := Lib.hid hn
  clear hn D
  go_enter Try.func79, Try.ntmps79
  go_wp2_with fail
  refine (within_st _ _ _ _).mono ?_
  rintro e w1 ⟨rfl, hS⟩
  rw [HN.out]
  have HS := Lib.hid hS
  clear hS
  go_wp2_with fail
  refine (ask_yes _ _).mono ?_
  rintro e w2 ⟨rfl, hS⟩
  have HS2 := Lib.hid hS
  clear hS
  go_wp2
  go_end0
  exact ⟨rfl, HS.out.trans HS2.out⟩
set_option maxHeartbeats 1000000 in
theorem show_no (D : Desk base w g h b c0 c1 c2 c3 c4 vs vo vt xs) (n : Int) (hn : withinB n 0 (h.dates.length - 1) = false) :
    Calls Try.prog 79 #[.pointer (some ⟨g, 0, none⟩), .int .i64 n] w fun e w' => e = .panicked (refusal 2) ∧ Step w w' := by
  obtain ⟨⟨f0, f1, f2, f3, f4⟩, _⟩ := cells11 D.bx
  obtain ⟨p2, k2, rfl⟩ := (rep5 D.house).2.2.1.form
  have hl := (rep5 D.house).2.2.1.len
  have HN := Lib.hid hn
  clear hn D
  go_enter Try.func79, Try.ntmps79
  go_wp2_with fail
  refine (within_st _ _ _ _).mono ?_
  rintro e w1 ⟨rfl, hS⟩
  rw [HN.out]
  have HS := Lib.hid hS
  clear hS
  go_wp2_with fail
  refine (ask_no _ _).mono ?_
  rintro e w2 ⟨rfl, hS⟩
  exact ⟨rfl, rfl, HS.out.trans hS⟩
end
end Go.Proofs.Ytbgfmikbhiblgaa
/- Walks: a desk's small words; a seat is sold. -/
namespace Go.Proofs.Ytbgfmikbhiblgaa
set_option linter.unusedSimpArgs false
set_option linter.unusedVariables false
open Go.RowKit Go.BT

def OkDesk (h : House) (b : Book) : Prop := valid h = true ∧ b.off.length = h.dates.length ∧ b.seats.length = h.dates.length ∧ (∀ i (hi : i < b.seats.length), (b.seats[i].length : Int) = sizeL h.sectors) ∧ 0 ≤ b.agency ∧ b.agency < agN h ∧ -1000000000 ≤ b.cash ∧ b.cash ≤ 1000000000 ∧ 0 ≤ b.sent ∧ b.sent ≤ 1000
def offAt (b : Book) (s : Int) : Bool := b.off.getD s.toNat false
def dateAt (h : House) (s : Int) : Int := h.dates.getD s.toNat 0
def fromAt (h : House) (s a : Int) : Int := (h.frm.getD s.toNat []).getD a.toNat 0
def seatAt (b : Book) (s i : Int) : Int := (b.seats.getD s.toNat []).getD i.toNat 0
def DeskE (base : Nat) (w : World) (g : Nat) (h : House) (b : Book) : Prop := ∃ c0 c1 c2 c3 c4 vs vo vt xs, Desk base w g h b c0 c1 c2 c3 c4 vs vo vt xs
def DeskEnds (base g : Nat) (h : House) (r : Except Int Book) (e : Ending) (w w' : World) : Prop := StepX (fun j => base ≤ j) w w' ∧ match r with
  | .ok b' => e = .returned (.tuple #[]) ∧ DeskE base w' g h b'
  | .error c => e = .panicked (refusal c)
theorem DeskEnds.no {base g : Nat} {h : House} {r : Except Int Book} {w w' : World} {c : Int} (hr : r = .error c) (hS : Step w w') : DeskEnds base g h r (.panicked (refusal c)) w w' := by
  subst hr; exact ⟨.of hS, rfl⟩
theorem DeskEnds.noX {base g : Nat} {h : House} {r : Except Int Book} {w w' : World} {c : Int} (hr : r = .error c) (hS : StepX (fun j => base ≤ j) w w') : DeskEnds base g h r (.panicked (refusal c)) w w' := by
  subst hr; exact ⟨hS, rfl⟩
theorem DeskEnds.yes {base g : Nat} {h : House} {r : Except Int Book} {w w' : World} {b' : Book} (hr : r = .ok b') (hS : StepX (fun j => base ≤ j) w w') (hD : DeskE base w' g h b') : DeskEnds base g h r (.returned (.tuple #[])) w w' := by
  subst hr; exact ⟨hS, rfl, hD⟩

theorem within_nat {n lo hi : Int} (h : withinB n lo hi = true) (h0 : 0 ≤ lo) : ∃ k : Nat, n = k ∧ lo ≤ (k : Int) ∧ (k : Int) ≤ hi := by
  simp [withinB] at h
  exact ⟨n.toNat, by omega, by omega, by omega⟩

section
variable {base : Nat} {w : World} {g : Nat} {h : House} {b : Book} {c0 c1 c2 c3 c4 vs vo vt : Value} {xs : List Value}
/-- What is read on the way to a seat. -/
theorem Desk.seat_at (D : Desk base w g h b c0 c1 c2 c3 c4 vs vo vt xs) {i : Nat} (hi : i < b.seats.length) (h0 : 0 < b.seats[i].length) :
    ∃ go co gi ci, vs = .slice (some ⟨go, 0, none⟩) b.seats.length co ∧ (∃ hx : i < xs.length, xs[i] = .slice (some ⟨gi, 0, none⟩) b.seats[i].length ci) ∧ w.cell? ⟨go, i, none⟩ = some (.slice (some ⟨gi, 0, none⟩) b.seats[i].length ci) ∧
      (∀ j (hj : j < b.seats[i].length), w.cell? ⟨gi, j, none⟩ = some (.int .i64 b.seats[i][j])) ∧ (∀ j, w.frozen? ⟨gi, j, none⟩ = false) ∧ go < w.heap.size ∧ gi < w.heap.size := by
  obtain ⟨go, co, hv, _, _, hgo, hc, _⟩ := owns_at D.outer (by omega)
  have hx : i < xs.length := by have := D.len; omega
  obtain ⟨gi, ci, hvi, _, _, hgi, hci, hfi⟩ := owns_at (D.row i hi hx) h0
  refine ⟨go, co, gi, ci, hv, ⟨hx, hvi⟩, ?_, fun j hj => ?_, hfi, hgo, hgi⟩
  · rw [hc i (by omega), List.getElem?_eq_getElem hx, hvi]
  · rw [hci j hj]; simp [hj]
theorem Desk.off_at (D : Desk base w g h b c0 c1 c2 c3 c4 vs vo vt xs) {i : Nat} (hi : i < b.off.length) :
    ∃ go co, vo = .slice (some ⟨go, 0, none⟩) b.off.length co ∧ (∀ j (hj : j < b.off.length), w.cell? ⟨go, j, none⟩ = some (.bool b.off[j])) ∧ (∀ j, w.frozen? ⟨go, j, none⟩ = false) ∧ go < w.heap.size := by
  obtain ⟨go, co, hv, _, _, hgo, hc, hf⟩ := owns_at D.off (by omega)
  exact ⟨go, co, hv, fun j hj => by rw [hc j hj]; simp [hj], hf, hgo⟩
set_option maxHeartbeats 1000000 in
theorem seat_yes (D : Desk base w g h b c0 c1 c2 c3 c4 vs vo vt xs) (n : Int) (hok : valid h = true) (hn : withinB n 0 (sizeL h.sectors - 1) = true) :
    Calls Try.prog 97 #[.pointer (some ⟨g, 0, none⟩), .int .i64 n] w fun e w' => e = .returned (.tuple #[]) ∧ Step w w' := by
  obtain ⟨⟨f0, f1, f2, f3, f4⟩, _⟩ := cells11 D.bx
  have hb := (bounds_valid hok).2.2.2.2.2.2
  have hs0 := hb.1
  have hs1 := hb.2.1
  have hcall := Lib.hid (size_any (fun j => base ≤ j) h (.agg #[c0, c1, c2, c3, c4]) w ⟨_, rfl, D.house⟩ (okSec_valid hok))
  have HN := Lib.hid hn
  clear hn D hok hb
  go_enter Try.func97, Try.ntmps97
  go_wp2_with fail
  refine hcall.out.mono ?_
  rintro e w0 ⟨rfl, hS⟩
  have HS0 := Lib.hid hS
  clear hS hcall
  go_wp2_with fail
  refine (within_st _ _ _ _).mono ?_
  rintro e w1 ⟨rfl, hS⟩
  rw [HN.out]
  have HS := Lib.hid (HS0.out.trans hS)
  clear hS
  go_wp2_with fail
  refine (ask_yes _ _).mono ?_
  rintro e w2 ⟨rfl, hS⟩
  have HS2 := Lib.hid (HS.out.trans hS)
  clear hS
  go_wp2
  go_end0
  exact ⟨rfl, HS2.out⟩
set_option maxHeartbeats 1000000 in
theorem seat_no (D : Desk base w g h b c0 c1 c2 c3 c4 vs vo vt xs) (n : Int) (hok : valid h = true) (hn : withinB n 0 (sizeL h.sectors - 1) = false) :
    Calls Try.prog 97 #[.pointer (some ⟨g, 0, none⟩), .int .i64 n] w fun e w' => e = .panicked (refusal 2) ∧ Step w w' := by
  obtain ⟨⟨f0, f1, f2, f3, f4⟩, _⟩ := cells11 D.bx
  have hb := (bounds_valid hok).2.2.2.2.2.2
  have hs0 := hb.1
  have hs1 := hb.2.1
  have hcall := Lib.hid (size_any (fun j => base ≤ j) h (.agg #[c0, c1, c2, c3, c4]) w ⟨_, rfl, D.house⟩ (okSec_valid hok))
  have HN := Lib.hid hn
  clear hn D hok hb
  go_enter Try.func97, Try.ntmps97
  go_wp2_with fail
  refine hcall.out.mono ?_
  rintro e w0 ⟨rfl, hS⟩
  have HS0 := Lib.hid hS
  clear hS hcall
  go_wp2_with fail
  refine (within_st _ _ _ _).mono ?_
  rintro e w1 ⟨rfl, hS⟩
  rw [HN.out]
  have HS := Lib.hid (HS0.out.trans hS)
  clear hS
  go_wp2_with fail
  refine (ask_no _ _).mono ?_
  rintro e w2 ⟨rfl, hS⟩
  have HS2 := Lib.hid (HS.out.trans hS)
  clear hS
  exact ⟨rfl, rfl, HS2.out⟩
set_option maxHeartbeats 1000000 in
theorem sold_any (D : Desk base w g h b c0 c1 c2 c3 c4 vs vo vt xs) (i j : Nat) (hi : i < b.seats.length) (hj : j < b.seats[i].length) :
    Calls Try.prog 98 #[.pointer (some ⟨g, 0, none⟩), .int .i64 i, .int .i64 j] w fun e w' => e = .returned (.bool (decide (0 < b.seats[i][j]))) ∧ Step w w' := by
  obtain ⟨⟨f0, f1, f2, f3, f4⟩, f5, f6, f7, f8, f9, f10⟩ := cells11 D.bx
  obtain ⟨go, co, gi, ci, rfl, _, hc, hcj, _, _, _⟩ := D.seat_at hi (by omega)
  have hcj := hcj j hj
  have hx : (0 : Int) ≤ (i : Int) ∧ (i : Int) < (b.seats.length : Int) := by omega
  have hy : (0 : Int) ≤ (j : Int) ∧ (j : Int) < (b.seats[i].length : Int) := by omega
  clear D
  go_enter Try.func98, Try.ntmps98
  go_wp2
  go_ret
  exact ⟨rfl, Step.refl _⟩
end
end Go.Proofs.Ytbgfmikbhiblgaa
/- Walks: a desk sells a seat. -/
namespace Go.Proofs.Ytbgfmikbhiblgaa
set_option linter.unusedSimpArgs false
set_option linter.unusedVariables false
open Go.RowKit Go.BT

def sellE (h : House) (b : Book) (s n y d : Int) : Int :=
  if withinB s 0 (h.dates.length - 1) = false then 2 else if withinB n 0 (sizeL h.sectors - 1) = false then 2 else if withinB y 1 1000000 = false then 2 else
  if offAt b s = true then 8 else if d < fromAt h s b.agency then 8 else if dateAt h s < d then 11 else if seatAt b s n = -1 then 7 else if 0 < seatAt b s n then 6 else 0
def sellP (h : House) (b : Book) (s n y : Int) : Book := { putSeat b s.toNat n.toNat y with cash := b.cash + priceL h n }
def sellD (h : House) (b : Book) (s n y d : Int) : Except Int Book := if sellE h b s n y d = 0 then .ok (sellP h b s n y) else .error (sellE h b s n y d)
theorem sellD_no {h : House} {b : Book} {s n y d c : Int} (hc : sellE h b s n y d = c) (h0 : c ≠ 0) : sellD h b s n y d = .error c := by simp [sellD, hc, h0]
theorem sellD_yes {h : House} {b : Book} {s n y d : Int} (hc : sellE h b s n y d = 0) : sellD h b s n y d = .ok (sellP h b s n y) := by simp [sellD, hc]

theorem from_row {h : House} (hok : valid h = true) {i : Nat} (hi : i < h.frm.length) : h.frm[i].length = agN h := by
  simp only [valid, validB, Bool.and_eq_true] at hok
  have := List.all_eq_true.1 hok.2.1.2 _ (List.getElem_mem hi)
  simp [fromB] at this
  exact this.1

theorem sellE_1 {h : House} {b : Book} {s n y d : Int} (q1 : withinB s 0 (h.dates.length - 1) = true) (q2 : withinB n 0 (sizeL h.sectors - 1) = true) (q3 : withinB y 1 1000000 = true) (q4 : offAt b s = false) :
    sellE h b s n y d = if d < fromAt h s b.agency then 8 else if dateAt h s < d then 11 else if seatAt b s n = -1 then 7 else if 0 < seatAt b s n then 6 else 0 := by
  simp [sellE, q1, q2, q3, q4]
section
variable {base : Nat} {w : World} {g : Nat} {h : House} {b : Book} {c0 c1 c2 c3 c4 vs vo vt : Value} {xs : List Value}
set_option maxHeartbeats 4000000 in
theorem sell_any (D : Desk base w g h b c0 c1 c2 c3 c4 vs vo vt xs) (hO : OkDesk h b) (s n y d : Int) :
    Calls Try.prog 67 #[.pointer (some ⟨g, 0, none⟩), .int .i64 s, .int .i64 n, .int .i64 y, .int .i64 d] w (fun e w' => DeskEnds base g h (sellD h b s n y d) e w w') := by
  have HD := Lib.hid D
  have HO := Lib.hid hO
  have HT := Lib.hid (Step.refl w)
  clear D hO
  go_enter Try.func67, Try.ntmps67
  cases q1 : withinB s 0 (h.dates.length - 1) with
  | false =>
    have HF := Lib.hid (show sellE h b s n y d = 2 by simp [sellE, q1])
    have hcall := Lib.hid (show_no HD.out s q1)
    go_wp2_with fail
    refine hcall.out.mono ?_
    clear hcall
    rintro e wn ⟨rfl, hSn⟩
    have HTi := Lib.hid (HT.out.trans hSn)
    clear hSn HT
    have HT := HTi
    clear HTi
    exact ⟨rfl, .no (sellD_no HF.out (by simp)) HT.out⟩
  | true =>
  have hcall := Lib.hid (show_yes HD.out s q1)
  go_wp2_with fail
  refine hcall.out.mono ?_
  clear hcall
  rintro e wn ⟨rfl, hSn⟩
  have HTi := Lib.hid (HT.out.trans hSn)
  clear hSn HT
  have HT := HTi
  clear HTi
  have Q1 := Lib.hid q1
  clear q1
  cases q2 : withinB n 0 (sizeL h.sectors - 1) with
  | false =>
    have HF := Lib.hid (show sellE h b s n y d = 2 by simp [sellE, Q1.out, q2])
    have hcall := Lib.hid (seat_no (HD.out.step HT.out) n HO.out.1 q2)
    go_wp2_with fail
    refine hcall.out.mono ?_
    clear hcall
    rintro e wn ⟨rfl, hSn⟩
    have HTi := Lib.hid (HT.out.trans hSn)
    clear hSn HT
    have HT := HTi
    clear HTi
    exact ⟨rfl, .no (sellD_no HF.out (by simp)) HT.out⟩
  | true =>
  have hcall := Lib.hid (seat_yes (HD.out.step HT.out) n HO.out.1 q2)
  go_wp2_with fail
  refine hcall.out.mono ?_
  clear hcall
  rintro e wn ⟨rfl, hSn⟩
  have HTi := Lib.hid (HT.out.trans hSn)
  clear hSn HT
  have HT := HTi
  clear HTi
  have Q2 := Lib.hid q2
  clear q2
  go_wp2_with fail
  refine (within_st _ _ _ _).mono ?_
  rintro e wn ⟨rfl, hSn⟩
  have HTi := Lib.hid (HT.out.trans hSn)
  clear hSn HT
  have HT := HTi
  clear HTi
  cases q3 : withinB y 1 1000000 with
  | false =>
    have HF := Lib.hid (show sellE h b s n y d = 2 by simp [sellE, Q1.out, Q2.out, q3])
    clear q3
    go_wp2_with fail
    refine (ask_no _ _).mono ?_
    rintro e wn ⟨rfl, hSn⟩
    have HTi := Lib.hid (HT.out.trans hSn)
    clear hSn HT
    have HT := HTi
    clear HTi
    exact ⟨rfl, .no (sellD_no HF.out (by simp)) HT.out⟩
  | true =>
  have Q3 := Lib.hid q3
  clear q3
  go_wp2_with fail
  refine (ask_yes _ _).mono ?_
  rintro e wn ⟨rfl, hSn⟩
  have HTi := Lib.hid (HT.out.trans hSn)
  clear hSn HT
  have HT := HTi
  clear HTi
  obtain ⟨i, rfl, hi0, hi1⟩ := within_nat Q1.out (by omega)
  obtain ⟨j, rfl, hj0, hj1⟩ := within_nat Q2.out (by omega)
  have hbv := bounds_valid HO.out.1
  have hD := HO.out.2.1
  have hD2 := HO.out.2.2.1
  have hio : i < b.off.length := by omega
  have his : i < b.seats.length := by omega
  have hjs : j < b.seats[i].length := by have := HO.out.2.2.2.1 i his; omega
  have hif : i < h.frm.length := by omega
  have hid : i < h.dates.length := by omega
  have hag0 := HO.out.2.2.2.2.1
  have hag1 := HO.out.2.2.2.2.2.1
  obtain ⟨ag, hag⟩ : ∃ ag : Nat, b.agency = ag := ⟨b.agency.toNat, by omega⟩
  have hagf : ag < h.frm[i].length := by rw [from_row HO.out.1 hif]; omega
  have HAG := Lib.hid hag
  have hx1 : (0 : Int) ≤ (i : Int) ∧ (i : Int) < (b.off.length : Int) := by omega
  have hx2 : (0 : Int) ≤ (i : Int) ∧ (i : Int) < (b.seats.length : Int) := by omega
  have hx3 : (0 : Int) ≤ (j : Int) ∧ (j : Int) < (b.seats[i].length : Int) := by omega
  have hx4 : (0 : Int) ≤ (i : Int) ∧ (i : Int) < (h.frm.length : Int) := by omega
  have hx5 : (0 : Int) ≤ (ag : Int) ∧ (ag : Int) < (h.frm[i].length : Int) := by omega
  have hx6 : (0 : Int) ≤ (i : Int) ∧ (i : Int) < (h.dates.length : Int) := by omega
  clear hbv hD hD2 hag0 hag1 hag hi0 hi1 hj0 hj1
  obtain ⟨go, co, rfl, hoc, _, _⟩ := HD.out.off_at hio
  obtain ⟨gs, cs, gi, ci, rfl, ⟨hxi, hxv⟩, hsc, hsj, hsf, _, hgl⟩ := HD.out.seat_at his (by omega)
  obtain ⟨r0, r1, r2, r3, r4⟩ := rep5 HD.out.house
  obtain ⟨pf, kf, bf, of, rfl, _, _, hpf, hcf, hbf⟩ := r3.rows
  obtain rfl := hpf (by omega)
  obtain ⟨fv, hfc, hfs⟩ := hcf i hif
  obtain ⟨pg, kg, bg, og, rfl, _, _, hpg, hcg, hbg⟩ := hfs.ints
  obtain rfl := hpg (by omega)
  have hgc := hcg ag hagf
  obtain ⟨pp, kp, rfl⟩ := r1.form
  obtain ⟨pd, kd, bd, od, rfl, _, _, hpd, hcd, hbd⟩ := r2.ints
  obtain rfl := hpd (by omega)
  have hdc := hcd i hid
  have HC := Lib.hid (And.intro (hoc i hio) (And.intro hsc (And.intro (hsj j hjs) (And.intro hfc (And.intro hgc hdc)))))
  have HSF := Lib.hid (And.intro hgl (hsf j))
  clear r0 r1 r2 r3 r4 hpf hcf hbf hpg hcg hbg hfs hpd hcd hbd hoc hsc hsj hfc hgc hdc hsf
  have hoff : offAt b i = b.off[i] := by simp [offAt, List.getD_eq_getElem?_getD, hio]
  have hfrom : fromAt h i b.agency = h.frm[i][ag] := by rw [HAG.out]; simp [fromAt, List.getD_eq_getElem?_getD, hif, hagf]
  have hdate : dateAt h i = h.dates[i] := by simp [dateAt, List.getD_eq_getElem?_getD, hid]
  have hseat : seatAt b i j = b.seats[i][j] := by simp [seatAt, List.getD_eq_getElem?_getD, his, hjs]
  have HE := Lib.hid (And.intro hoff (And.intro hfrom (And.intro hdate hseat)))
  clear hoff hfrom hdate hseat
  (try clear f0 f1 f2 f3 f4 f5 f6 f7 f8 f9 f10 m0 m1 m2 m3 m4 m5 y0)
  obtain ⟨⟨f0, f1, f2, f3, f4⟩, f5, f6, f7, f8, f9, f10⟩ := cells11 (HD.out.step HT.out).bx
  rw [HAG.out] at f5
  have m0 := HT.out.keeps.cell id HC.out.1
  have m1 := HT.out.keeps.cell id HC.out.2.1
  have m2 := HT.out.keeps.cell id HC.out.2.2.1
  have m3 := HT.out.keeps.cell id HC.out.2.2.2.1
  have m4 := HT.out.keeps.cell id HC.out.2.2.2.2.1
  have m5 := HT.out.keeps.cell id HC.out.2.2.2.2.2
  go_upto_region 3 with (fail)
  refine wp_region_seq (kdOf [] []) [0, 1, 3, 7, 15, 0, 63, 127, 255, 511, 1023, 1023, 3071, 7167, 15359, 31743, 1023, 130047, 261119, 1023, 525311, 1573887, 3671039, 7865343, 16776191, 33553407, 67108863, 134217727, 268435455] [0, 1, 2, 3, 4, 5, 6, 7, 8, 9, 10, 11, 12, 13, 14, 15, 16, 17, 18, 19, 20, 21, 22, 23, 24, 25, 26, 27] [28] (by kernel_rfl) (by kernel_rfl) (fun i T z hi hk => by simp [kdOf] at hk <;> (try (split at hk <;> cases hk))) ?_
  intro Wx hWx
  have HTi := Lib.hid (HT.out.trans hWx)
  clear hWx HT
  have HT := HTi
  clear HTi
  (try clear f0 f1 f2 f3 f4 f5 f6 f7 f8 f9 f10 m0 m1 m2 m3 m4 m5 y0)
  obtain ⟨⟨f0, f1, f2, f3, f4⟩, f5, f6, f7, f8, f9, f10⟩ := cells11 (HD.out.step HT.out).bx
  rw [HAG.out] at f5
  have m0 := HT.out.keeps.cell id HC.out.1
  have m1 := HT.out.keeps.cell id HC.out.2.1
  have m2 := HT.out.keeps.cell id HC.out.2.2.1
  have m3 := HT.out.keeps.cell id HC.out.2.2.2.1
  have m4 := HT.out.keeps.cell id HC.out.2.2.2.2.1
  have m5 := HT.out.keeps.cell id HC.out.2.2.2.2.2
  cases q4 : b.off[i] with
  | true =>
    have HF := Lib.hid (show sellE h b i j y d = 8 by simp [sellE, Q1.out, Q2.out, Q3.out, HE.out.1, q4])
    repeat (first | (refine run_off rfl rfl (by rfl) ?_; (try simp only [Act.put, List.setIfInBounds_toArray, List.set_cons_zero, List.set_cons_succ])) | (refine run_chain_off rfl rfl (by rfl) (K0_mono _) ?_; (try simp only [Act.put, List.setIfInBounds_toArray, List.set_cons_zero, List.set_cons_succ])) | ((refine run_want rfl rfl (by rfl) ⟨?_, fun W hW => ?_, ?_⟩; rotate_left; (· (have d0 := hW.keeps.cell id f7; have d1 := hW.keeps.cell id m0; go_simp; (try with_reducible rfl)))); (try simp only [Act.put, List.setIfInBounds_toArray, List.set_cons_zero, List.set_cons_succ])))
    refine run_end (L := [_]) rfl (fun W6 hW6 => ?_)
    have HT6 := Lib.hid (HT.out.trans hW6)
    clear hW6 HT
    have HT := HT6
    clear HT6
    clear q4
    go_wp2_with fail
    refine (ask_no _ _).mono ?_
    rintro e wn ⟨rfl, hSn⟩
    have HTi := Lib.hid (HT.out.trans hSn)
    clear hSn HT
    have HT := HTi
    clear HTi
    exact ⟨rfl, .no (sellD_no HF.out (by simp)) HT.out⟩
  | false =>
  by_cases q5 : h.frm[i][ag] ≤ d
  rotate_left
  · have HF := Lib.hid (show sellE h b i j y d = 8 by rw [sellE_1 Q1.out Q2.out Q3.out (HE.out.1.trans q4), if_pos (by rw [HE.out.2.1]; omega)])
    have hd : decide (h.frm[i][ag] ≤ d) = false := by simp; omega
    repeat (first | (refine run_off rfl rfl (by rfl) ?_; (try simp only [Act.put, List.setIfInBounds_toArray, List.set_cons_zero, List.set_cons_succ])) | (refine run_chain_off rfl rfl (by rfl) (K0_mono _) ?_; (try simp only [Act.put, List.setIfInBounds_toArray, List.set_cons_zero, List.set_cons_succ])) | ((refine run_want rfl rfl (by rfl) ⟨?_, fun W hW => ?_, ?_⟩; rotate_left; (· (have d0 := hW.keeps.cell id f7; have d1 := hW.keeps.cell id m0; have d2 := hW.keeps.cell id f3; have d3 := hW.keeps.cell id m3; have d4 := hW.keeps.cell id f5; have d5 := hW.keeps.cell id m4; go_simp; (try with_reducible rfl)))); (try simp only [Act.put, List.setIfInBounds_toArray, List.set_cons_zero, List.set_cons_succ])))
    refine run_end (L := [_]) rfl (fun W6 hW6 => ?_)
    have HT6 := Lib.hid (HT.out.trans hW6)
    clear hW6 HT
    have HT := HT6
    clear HT6
    clear q4 q5 hd
    go_wp2_with fail
    refine (ask_no _ _).mono ?_
    rintro e wn ⟨rfl, hSn⟩
    have HTi := Lib.hid (HT.out.trans hSn)
    clear hSn HT
    have HT := HTi
    clear HTi
    exact ⟨rfl, .no (sellD_no HF.out (by simp)) HT.out⟩
  have hd : decide (h.frm[i][ag] ≤ d) = true := by simp; omega
  repeat (first | (refine run_off rfl rfl (by rfl) ?_; (try simp only [Act.put, List.setIfInBounds_toArray, List.set_cons_zero, List.set_cons_succ])) | (refine run_chain_off rfl rfl (by rfl) (K0_mono _) ?_; (try simp only [Act.put, List.setIfInBounds_toArray, List.set_cons_zero, List.set_cons_succ])) | ((refine run_want rfl rfl (by rfl) ⟨?_, fun W hW => ?_, ?_⟩; rotate_left; (· (have d0 := hW.keeps.cell id f7; have d1 := hW.keeps.cell id m0; have d2 := hW.keeps.cell id f3; have d3 := hW.keeps.cell id m3; have d4 := hW.keeps.cell id f5; have d5 := hW.keeps.cell id m4; go_simp; (try with_reducible rfl)))); (try simp only [Act.put, List.setIfInBounds_toArray, List.set_cons_zero, List.set_cons_succ])))
  refine run_end (L := [_]) rfl (fun W6 hW6 => ?_)
  have HT6 := Lib.hid (HT.out.trans hW6)
  clear hW6 HT
  have HT := HT6
  clear HT6
  have Q4 := Lib.hid (And.intro q4 (show ¬ d < fromAt h i b.agency by rw [HE.out.2.1]; omega))
  clear q4 q5 hd
  go_wp2_with fail
  refine (ask_yes _ _).mono ?_
  rintro e wn ⟨rfl, hSn⟩
  have HTi := Lib.hid (HT.out.trans hSn)
  clear hSn HT
  have HT := HTi
  clear HTi
  (try clear f0 f1 f2 f3 f4 f5 f6 f7 f8 f9 f10 m0 m1 m2 m3 m4 m5 y0)
  obtain ⟨⟨f0, f1, f2, f3, f4⟩, f5, f6, f7, f8, f9, f10⟩ := cells11 (HD.out.step HT.out).bx
  rw [HAG.out] at f5
  have m0 := HT.out.keeps.cell id HC.out.1
  have m1 := HT.out.keeps.cell id HC.out.2.1
  have m2 := HT.out.keeps.cell id HC.out.2.2.1
  have m3 := HT.out.keeps.cell id HC.out.2.2.2.1
  have m4 := HT.out.keeps.cell id HC.out.2.2.2.2.1
  have m5 := HT.out.keeps.cell id HC.out.2.2.2.2.2
  by_cases q6 : d ≤ h.dates[i]
  rotate_left
  · have HF := Lib.hid (show sellE h b i j y d = 11 by rw [sellE_1 Q1.out Q2.out Q3.out (HE.out.1.trans Q4.out.1), if_neg (by have := Q4.out.2; omega), if_pos (by rw [HE.out.2.2.1]; omega)])
    have hd : decide (d ≤ h.dates[i]) = false := by simp; omega
    go_wp2_with fail
    refine (ask_no _ _).mono ?_
    rintro e wn ⟨rfl, hSn⟩
    have HTi := Lib.hid (HT.out.trans hSn)
    clear hSn HT
    have HT := HTi
    clear HTi
    exact ⟨rfl, .no (sellD_no HF.out (by simp)) HT.out⟩
  have hd : decide (d ≤ h.dates[i]) = true := by simp; omega
  go_wp2_with fail
  refine (ask_yes _ _).mono ?_
  rintro e wn ⟨rfl, hSn⟩
  have HTi := Lib.hid (HT.out.trans hSn)
  clear hSn HT
  have HT := HTi
  clear HTi
  have Q6 := Lib.hid (show ¬ dateAt h i < d by rw [HE.out.2.2.1]; omega)
  clear hd q6
  (try clear f0 f1 f2 f3 f4 f5 f6 f7 f8 f9 f10 m0 m1 m2 m3 m4 m5 y0)
  obtain ⟨⟨f0, f1, f2, f3, f4⟩, f5, f6, f7, f8, f9, f10⟩ := cells11 (HD.out.step HT.out).bx
  rw [HAG.out] at f5
  have m0 := HT.out.keeps.cell id HC.out.1
  have m1 := HT.out.keeps.cell id HC.out.2.1
  have m2 := HT.out.keeps.cell id HC.out.2.2.1
  have m3 := HT.out.keeps.cell id HC.out.2.2.2.1
  have m4 := HT.out.keeps.cell id HC.out.2.2.2.2.1
  have m5 := HT.out.keeps.cell id HC.out.2.2.2.2.2
  by_cases q7 : b.seats[i][j] = -1
  · have HF := Lib.hid (show sellE h b i j y d = 7 by rw [sellE_1 Q1.out Q2.out Q3.out (HE.out.1.trans Q4.out.1), if_neg (by have := Q4.out.2; omega), if_neg (by have := Q6.out; omega), if_pos (by rw [HE.out.2.2.2]; exact q7)])
    have hd : (b.seats[i][j] != -1) = false := by simp [q7]
    clear q7
    go_wp2_with fail
    refine (ask_no _ _).mono ?_
    rintro e wn ⟨rfl, hSn⟩
    have HTi := Lib.hid (HT.out.trans hSn)
    clear hSn HT
    have HT := HTi
    clear HTi
    exact ⟨rfl, .no (sellD_no HF.out (by simp)) HT.out⟩
  have hd : (b.seats[i][j] != -1) = true := by simp [q7]
  have Q7 := Lib.hid (show ¬ seatAt b i j = -1 by rw [HE.out.2.2.2]; exact q7)
  clear q7
  go_wp2_with fail
  refine (ask_yes _ _).mono ?_
  rintro e wn ⟨rfl, hSn⟩
  have HTi := Lib.hid (HT.out.trans hSn)
  clear hSn HT
  have HT := HTi
  clear HTi
  clear hd
  have hcall := Lib.hid (sold_any (HD.out.step HT.out) i j his hjs)
  go_wp2_with fail
  refine hcall.out.mono ?_
  clear hcall
  rintro e wn ⟨rfl, hSn⟩
  have HTi := Lib.hid (HT.out.trans hSn)
  clear hSn HT
  have HT := HTi
  clear HTi
  by_cases q8 : 0 < b.seats[i][j]
  · have HF := Lib.hid (show sellE h b i j y d = 6 by rw [sellE_1 Q1.out Q2.out Q3.out (HE.out.1.trans Q4.out.1), if_neg (by have := Q4.out.2; omega), if_neg (by have := Q6.out; omega), if_neg Q7.out, if_pos (by rw [HE.out.2.2.2]; exact q8)])
    have hd : decide (0 < b.seats[i][j]) = true := by simpa using q8
    rw [hd]
    clear hd q8
    go_wp2_with fail
    refine (ask_no _ _).mono ?_
    rintro e wn ⟨rfl, hSn⟩
    have HTi := Lib.hid (HT.out.trans hSn)
    clear hSn HT
    have HT := HTi
    clear HTi
    exact ⟨rfl, .no (sellD_no HF.out (by simp)) HT.out⟩
  have hd : decide (0 < b.seats[i][j]) = false := by simpa using q8
  have HF := Lib.hid (show sellE h b i j y d = 0 by rw [sellE_1 Q1.out Q2.out Q3.out (HE.out.1.trans Q4.out.1), if_neg (by have := Q4.out.2; omega), if_neg (by have := Q6.out; omega), if_neg Q7.out, if_neg (by rw [HE.out.2.2.2]; exact q8)])
  rw [hd]
  clear hd q8
  go_wp2_with fail
  refine (ask_yes _ _).mono ?_
  rintro e wn ⟨rfl, hSn⟩
  have HTi := Lib.hid (HT.out.trans hSn)
  clear hSn HT
  have HT := HTi
  clear HTi
  (try clear f0 f1 f2 f3 f4 f5 f6 f7 f8 f9 f10 m0 m1 m2 m3 m4 m5 y0)
  obtain ⟨⟨f0, f1, f2, f3, f4⟩, f5, f6, f7, f8, f9, f10⟩ := cells11 (HD.out.step HT.out).bx
  rw [HAG.out] at f5
  have m0 := HT.out.keeps.cell id HC.out.1
  have m1 := HT.out.keeps.cell id HC.out.2.1
  have m2 := HT.out.keeps.cell id HC.out.2.2.1
  have m3 := HT.out.keeps.cell id HC.out.2.2.2.1
  have m4 := HT.out.keeps.cell id HC.out.2.2.2.2.1
  have m5 := HT.out.keeps.cell id HC.out.2.2.2.2.2
  have z0 := (HT.out.cells.2 gi j HSF.out.1).trans HSF.out.2
  go_upto_region 8 with (fail)
  have hset := (HD.out.step HT.out).setSeat (j := j) his hxi hxv y
  have HD2 := Lib.hid hset.1
  have HSX : Hid (StepX (fun k => base ≤ k) w (wn.setCell ⟨gi, j, none⟩ (.int .i64 y))) := Lib.hid ((StepX.of HT.out).setCell ⟨gi, j, none⟩ _ hset.2)
  generalize wn.setCell ⟨gi, j, none⟩ (.int .i64 y) = w9 at *
  clear hset f0 f1 f2 f3 f4 f5 f6 f7 f8 f9 f10 m0 m1 m2 m3 m4 m5 z0 HC HSF
  obtain ⟨kc, hkc, hkl, hpr, hp0, hp1⟩ := class_valid HO.out.1 (n := j) (by omega) (by have := HO.out.2.2.2.1 i his; omega)
  have hcb := HO.out.2.2.2.2.2.2
  have hcb0 := hcb.1
  have hcb1 := hcb.2.1
  have hO := okSec_valid HO.out.1
  have hj9 : (0 : Int) ≤ (j : Int) ∧ (j : Int) ≤ 1000000000 := by have := (bounds_valid HO.out.1).2.2.2.2.2.2.2.1; have := HO.out.2.2.2.1 i his; omega
  have HPR := Lib.hid hpr
  have HP := Lib.hid (fun W (hW : Step w9 W) => price_any (fun k => base ≤ k) h (.agg #[c0, .slice pp h.prices.length kp, .slice (some ⟨bd, od, none⟩) h.dates.length kd, .slice (some ⟨bf, of, none⟩) h.frm.length kf, c4]) j W ⟨_, rfl, (HD2.out.step hW).house⟩ hO hj9 kc hkc hkl)
  clear hkc hpr hcb hO
  have HT := Lib.hid (Step.refl w9)
  refine wp_region_seq (kdOf [10] []) [0, 1, 3, 7, 15, 0, 32, 96, 224, 0, 992, 2047, 4095, 8191, 16383, 32767] [0, 1, 2, 3, 4, 5, 6, 7, 8, 9, 10, 11, 12, 13, 14] [15] (by kernel_rfl) (by kernel_rfl) (fun i T z hi hk => by simp [kdOf] at hk <;> (try (split at hk <;> cases hk))) ?_
  intro Wx hWx
  have HT := Lib.hid hWx
  clear hWx
  obtain ⟨⟨f0, f1, f2, f3, f4⟩, f5, f6, f7, f8, f9, f10⟩ := cells11 (HD2.out.step HT.out).bx
  have f10 : Wx.cell? ⟨g, 10, none⟩ = some (.int .i64 b.cash) := f10
  repeat (first | (refine run_off rfl rfl (by rfl) ?_; (try simp only [Act.put, List.setIfInBounds_toArray, List.set_cons_zero, List.set_cons_succ])) | (refine run_chain_off rfl rfl (by rfl) (K0_mono _) ?_; (try simp only [Act.put, List.setIfInBounds_toArray, List.set_cons_zero, List.set_cons_succ])) | ((refine run_want rfl rfl (by rfl) ⟨?_, fun W hW => ?_, ?_⟩; rotate_left; (· (have d0 := hW.keeps.cell id f0; have d1 := hW.keeps.cell id f1; have d2 := hW.keeps.cell id f2; have d3 := hW.keeps.cell id f3; have d4 := hW.keeps.cell id f4; have d5 := hW.keeps.cell id f10; go_simp; (try with_reducible rfl)))); (try simp only [Act.put, List.setIfInBounds_toArray, List.set_cons_zero, List.set_cons_succ])))
  clear f0 f1 f2 f3 f4 f5 f6 f7 f8 f9 f10
  refine run_chain rfl rfl (by rfl) (fun Wi hWi K' hK => ?_)
  have HTi := Lib.hid (HT.out.trans hWi)
  have HZW := Lib.hid HTi.out.size
  clear hWi HT
  go_simp
  refine (HP.out Wi HTi.out).mono ?_
  rintro e wn ⟨rfl, hSn⟩
  have HT := Lib.hid (HTi.out.trans (StepX.of hSn))
  clear HTi
  refine hK _ _ (StepX.of hSn) ?_
  clear hSn
  (try simp only [Act.put, List.setIfInBounds_toArray, List.set_cons_zero, List.set_cons_succ])
  clear HP
  repeat (first | (refine run_off rfl rfl (by rfl) ?_; (try simp only [Act.put, List.setIfInBounds_toArray, List.set_cons_zero, List.set_cons_succ])) | (refine run_chain_off rfl rfl (by rfl) (K0_mono _) ?_; (try simp only [Act.put, List.setIfInBounds_toArray, List.set_cons_zero, List.set_cons_succ])) | ((refine run_want rfl rfl (by rfl) ⟨?_, fun W hW => ?_, ?_⟩; rotate_left; (· (skip; go_simp; (try with_reducible rfl)))); (try simp only [Act.put, List.setIfInBounds_toArray, List.set_cons_zero, List.set_cons_succ])))
  refine run_end (L := [_]) rfl (fun W6 hW6 => ?_)
  have HT6 := Lib.hid (HT.out.trans hW6)
  clear hW6 HT
  have HT := HT6
  clear HT6
  obtain ⟨⟨f0, f1, f2, f3, f4⟩, f5, f6, f7, f8, f9, f10⟩ := cells11 (HD2.out.step HT.out).bx
  have z0 := (HD2.out.step HT.out).bx.frozen 10
  go_wp2
  go_end0
  have hD9 := HD2.out.step HT.out
  have hb9 := hD9.bx.setCell 10 (.int .i64 (b.cash + h.prices[kc]))
  have hD10 := hD9.setBook (Wrote.setCell _ g 10 _) (sellP h b i j y) rfl rfl rfl (by simpa [sellP, HPR.out, putSeat] using hb9)
  exact .yes (sellD_yes HF.out) ((HSX.out.trans (.of HT.out)).setCell ⟨g, 10, none⟩ _ hD9.gb) ⟨_, _, _, _, _, _, _, _, _, hD10⟩
end
end Go.Proofs.Ytbgfmikbhiblgaa
/- Walks: rows are cloned. -/
namespace Go.Proofs.Ytbgfmikbhiblgaa
set_option linter.unusedSimpArgs false
set_option linter.unusedVariables false
open Go.RowKit Go.BT

theorem infoKey : (Try.prog.info? 124).map (fun i => (i.zero, i.size, i.bytes)) = some (some (.agg #[.int .i64 0, .int .i64 0]), 2, 16) := by kernel_rfl
theorem eiKeys : EI Try.prog 34 124 (.agg #[.int .i64 0, .int .i64 0]) 2 16 := .mk' Try.underlying34 infoKey rfl
set_option maxHeartbeats 1000000 in
theorem clone_ints (S : Nat → Prop) (l : List Int) (v : Value) (w : World) (h : SL S w v l) (hl : l.length ≤ 1000000) :
    Calls Try.prog 103 #[v] w fun e w' => ∃ v', e = .returned v' ∧ OwnL (Old w) w.heap.size 3 w' v' l ∧ Step w w' := by
  have hq : ∀ (w : World) (a : Option Addr) (n c n' c' : Nat), (binOp .eql 23 (.slice a n c) (.slice none n' c')).run Try.prog w = .ok (.bool a.isNone) w := fun w a n c n' c' => Lib.run_eql_slice_nil w _ _ a n c n' c' Try.underlying23
  obtain ⟨p, c, rfl⟩ := h.form
  cases p with
  | none =>
    have h0 : l = [] := by
      obtain ⟨p', c', b, o, he, _, _, hp, _⟩ := h
      injection he with he _ _
      cases l with
      | nil => rfl
      | cons x l => rw [← he] at hp; have := hp (by simp); cases this
    subst h0
    have hc : (none : Option Addr).isNone = true := rfl
    go_enter Try.func103, Try.ntmps103
    go_wp2
    go_ret
    exact ⟨_, rfl, OwnL.nil _ _ _ _, Step.refl _⟩
  | some a =>
    have hc : (some a : Option Addr).isNone = false := rfl
    go_enter Try.func103, Try.ntmps103
    go_wp2_with (at_builtin; refine wpl_append (α := Int) (S := Old w) (base := w.heap.size) (v := .slice (some ⟨w.heap.size, 0, none⟩) 0 0) (l := []) (m := l) eiInts rfl _ _ rfl rfl rfl ⟨[], World.ownsRow_lit w #[] 0 (Nat.le_refl _) (by simp [maxLen]) (by simp), fun i h => absurd h (by simp)⟩ (SL.flat _ (h.keep (.alloc _ _))) l.length (by simp) l rfl ?_ ?_ ?_ ?_)
    · simp only [maxLen]; omega
    · omega
    · simp
    intro p' c' w' hown hg
    go_wp2
    go_ret
    exact ⟨_, rfl, hown, .of (((Below.refl _ w).alloc (Nat.le_refl _) _).grown hg (by simp) (by simp [Value.ownBlock]))⟩
set_option maxHeartbeats 1000000 in
theorem clone_bools (S : Nat → Prop) (l : List Bool) (v : Value) (w : World) (h : SL S w v l) (hl : l.length ≤ 1000000) :
    Calls Try.prog 111 #[v] w fun e w' => ∃ v', e = .returned v' ∧ OwnL (Old w) w.heap.size 4 w' v' l ∧ Step w w' := by
  have hq : ∀ (w : World) (a : Option Addr) (n c n' c' : Nat), (binOp .eql 27 (.slice a n c) (.slice none n' c')).run Try.prog w = .ok (.bool a.isNone) w := fun w a n c n' c' => Lib.run_eql_slice_nil w _ _ a n c n' c' Try.underlying27
  obtain ⟨p, c, rfl⟩ := h.form
  cases p with
  | none =>
    have h0 : l = [] := by
      obtain ⟨p', c', b, o, he, _, _, hp, _⟩ := h
      injection he with he _ _
      cases l with
      | nil => rfl
      | cons x l => rw [← he] at hp; have := hp (by simp); cases this
    subst h0
    have hc : (none : Option Addr).isNone = true := rfl
    go_enter Try.func111, Try.ntmps111
    go_wp2
    go_ret
    exact ⟨_, rfl, OwnL.nil _ _ _ _, Step.refl _⟩
  | some a =>
    have hc : (some a : Option Addr).isNone = false := rfl
    go_enter Try.func111, Try.ntmps111
    go_wp2_with (at_builtin; refine wpl_append (α := Bool) (S := Old w) (base := w.heap.size) (v := .slice (some ⟨w.heap.size, 0, none⟩) 0 0) (l := []) (m := l) eiBools rfl _ _ rfl rfl rfl ⟨[], World.ownsRow_lit w #[] 0 (Nat.le_refl _) (by simp [maxLen]) (by simp), fun i h => absurd h (by simp)⟩ (SL.flat _ (h.keep (.alloc _ _))) l.length (by simp) l rfl ?_ ?_ ?_ ?_)
    · simp only [maxLen]; omega
    · omega
    · simp
    intro p' c' w' hown hg
    go_wp2
    go_ret
    exact ⟨_, rfl, hown, .of (((Below.refl _ w).alloc (Nat.le_refl _) _).grown hg (by simp) (by simp [Value.ownBlock]))⟩
set_option maxHeartbeats 1000000 in
theorem clone_keys (S : Nat → Prop) (l : List Key) (v : Value) (w : World) (h : SL S w v l) (hl : l.length ≤ 1000000) :
    Calls Try.prog 112 #[v] w fun e w' => ∃ v', e = .returned v' ∧ OwnL (Old w) w.heap.size 124 w' v' l ∧ Step w w' := by
  have hq : ∀ (w : World) (a : Option Addr) (n c n' c' : Nat), (binOp .eql 34 (.slice a n c) (.slice none n' c')).run Try.prog w = .ok (.bool a.isNone) w := fun w a n c n' c' => Lib.run_eql_slice_nil w _ _ a n c n' c' Try.underlying34
  obtain ⟨p, c, rfl⟩ := h.form
  cases p with
  | none =>
    have h0 : l = [] := by
      obtain ⟨p', c', b, o, he, _, _, hp, _⟩ := h
      injection he with he _ _
      cases l with
      | nil => rfl
      | cons x l => rw [← he] at hp; have := hp (by simp); cases this
    subst h0
    have hc : (none : Option Addr).isNone = true := rfl
    go_enter Try.func112, Try.ntmps112
    go_wp2
    go_ret
    exact ⟨_, rfl, OwnL.nil _ _ _ _, Step.refl _⟩
  | some a =>
    have hc : (some a : Option Addr).isNone = false := rfl
    go_enter Try.func112, Try.ntmps112
    go_wp2_with (at_builtin; refine wpl_append (α := Key) (S := Old w) (base := w.heap.size) (v := .slice (some ⟨w.heap.size, 0, none⟩) 0 0) (l := []) (m := l) eiKeys rfl _ _ rfl rfl rfl ⟨[], World.ownsRow_lit w #[] 0 (Nat.le_refl _) (by simp [maxLen]) (by simp), fun i h => absurd h (by simp)⟩ (SL.flat _ (h.keep (.alloc _ _))) l.length (by simp) l rfl ?_ ?_ ?_ ?_)
    · simp only [maxLen]; omega
    · omega
    · simp
    intro p' c' w' hown hg
    go_wp2
    go_ret
    exact ⟨_, rfl, hown, .of (((Below.refl _ w).alloc (Nat.le_refl _) _).grown hg (by simp) (by simp [Value.ownBlock]))⟩
end Go.Proofs.Ytbgfmikbhiblgaa
/- Walks: a desk is laid. -/
namespace Go.Proofs.Ytbgfmikbhiblgaa
set_option linter.unusedSimpArgs false
set_option linter.unusedVariables false
open Go.RowKit Go.BT

/-- One value of one cell, as it stands. -/
structure Raw where
  v : Value
  one : v.oneCell' = true
instance : Rep Raw where
  k := 1
  rep _ _ cs x := cs = [x.v]
  len h := by rw [h]; rfl
  keep _ h := h
  weak _ h := h
  one {_ _ _ x} h := by subst h; simp [x.one]
  pos := by decide
instance : Flat Raw where
  flat h := h
theorem own_raw {S : Nat → Prop} {base : Nat} {e : TypeId} {w : World} {v : Value} {l : List Raw} (h : OwnL S base e w v l) : w.ownsRow base e 1 v l.length (l.map (·.v)) := by
  obtain ⟨xs, ho, hr⟩ := h
  have : xs = l.map (·.v) := map_of_drops ho.1 fun i hi => hr i hi
  subst this
  exact ho
theorem owns_mono {w : World} {b b' s : Nat} {e : TypeId} {v : Value} {n : Nat} {x : List Value} (h : w.ownsRow b e s v n x) (hb : b' ≤ b) : w.ownsRow b' e s v n x :=
  ⟨h.1, h.2.imp id fun ⟨g, cap, cur, h1, h2, h3⟩ => ⟨g, cap, cur, h1, Nat.le_trans hb h2, h3⟩⟩
/-- Rows of two types lie in two blocks. -/
theorem apart_rows {w : World} {b1 b2 s1 s2 : Nat} {e1 e2 : TypeId} {v1 v2 : Value} {n1 n2 : Nat} {x1 x2 : List Value} (h1 : w.ownsRow b1 e1 s1 v1 n1 x1) (h2 : w.ownsRow b2 e2 s2 v2 n2 x2) (hne : e1 ≠ e2) : ∀ k, v1.ownBlock = some k → v2.ownBlock ≠ some k := by
  intro k hk1 hk2
  rcases h1.2 with ⟨rfl, _⟩ | ⟨g, cap, cur, rfl, _, hg, _⟩
  · simp [Value.ownBlock] at hk1
  rcases h2.2 with ⟨rfl, _⟩ | ⟨g', cap', cur', rfl, _, hg', _⟩
  · simp [Value.ownBlock] at hk2
  simp [Value.ownBlock] at hk1 hk2
  subst hk1 hk2
  rw [hg] at hg'
  simp at hg'
  exact hne hg'.2
theorem apart_bx {w : World} {b2 s2 g : Nat} {e1 e2 : TypeId} {cs : List Value} {v2 : Value} {n2 : Nat} {x2 : List Value} (h1 : Bx w g cs e1) (h2 : w.ownsRow b2 e2 s2 v2 n2 x2) (hne : e1 ≠ e2) : v2.ownBlock ≠ some g := by
  intro hk2
  rcases h2.2 with ⟨rfl, _⟩ | ⟨g', cap', cur', rfl, _, hg', _⟩
  · simp [Value.ownBlock] at hk2
  simp [Value.ownBlock] at hk2
  subst hk2
  unfold Bx at h1
  rw [h1] at hg'
  simp at hg'
  exact hne hg'.2
def RowsApart (l : List Value) : Prop := Apart l
theorem Apart.snoc {l : List Value} {x : Value} (h : Apart l) (hx : ∀ y ∈ l, ∀ k, y.ownBlock = some k → x.ownBlock ≠ some k) : Apart (l ++ [x]) := by
  unfold Apart at *
  rw [List.pairwise_append]
  exact ⟨h, by simp, fun a ha b hb => by simp at hb; subst hb; exact hx a ha⟩
/-- A desk is made of its parts: their types keep them apart. -/
theorem Desk.of {base : Nat} {w : World} {g : Nat} {h : House} {b : Book} {c0 c1 c2 c3 c4 vs vo vt : Value} {xs : List Value} (bx : Bx w g [c0, c1, c2, c3, c4, .int .i64 b.agency, vs, vo, .int .i64 b.sent, vt, .int .i64 b.cash] 155)
    (gb : base ≤ g) (house : Rep.rep (fun j => base ≤ j) w [c0, c1, c2, c3, c4] h) (outer : w.ownsRow base 23 1 vs b.seats.length xs) (row : ∀ i (hi : i < b.seats.length) (hx : i < xs.length), OwnI base 3 w xs[i] b.seats[i])
    (off : OwnB base 4 w vo b.off) (took : OwnL (fun _ => False) base 124 w vt b.took) (ha : Apart xs) : Desk base w g h b c0 c1 c2 c3 c4 vs vo vt xs := by
  have hlen : xs.length = b.seats.length := by have := outer.1; omega
  obtain ⟨ts, ht, _⟩ := took
  have rowx : ∀ x ∈ xs, ∃ n l, w.ownsRow base 3 1 x n l := fun x hx => by
    obtain ⟨i, hi, rfl⟩ := List.getElem_of_mem hx
    exact ⟨_, _, row i (by omega) hi⟩
  refine ⟨bx, gb, house, outer, row, off, ⟨ts, ht, by assumption⟩, ?_⟩
  unfold Apart at *
  simp only [List.pairwise_cons, List.mem_cons, forall_eq_or_imp]
  refine ⟨⟨fun k hk => ?_, fun k hk => ?_, fun k hk => ?_, fun x hx k hk => ?_⟩, ⟨apart_rows outer off (by decide), apart_rows outer ht (by decide), fun x hx => ?_⟩, ⟨apart_rows off ht (by decide), fun x hx => ?_⟩, fun x hx => ?_, ha⟩
  · obtain rfl : g = k := by simpa [own_blk] using hk
    exact apart_bx bx outer (by decide)
  · obtain rfl : g = k := by simpa [own_blk] using hk
    exact apart_bx bx off (by decide)
  · obtain rfl : g = k := by simpa [own_blk] using hk
    exact apart_bx bx ht (by decide)
  · obtain rfl : g = k := by simpa [own_blk] using hk
    obtain ⟨n, l, hr⟩ := rowx x hx
    exact apart_bx bx hr (by decide)
  · obtain ⟨n, l, hr⟩ := rowx x hx
    exact apart_rows outer hr (by decide)
  · obtain ⟨n, l, hr⟩ := rowx x hx
    exact apart_rows off hr (by decide)
  · obtain ⟨n, l, hr⟩ := rowx x hx
    exact apart_rows ht hr (by decide)

/-- Behind k rounds of the loop that clones the rows. -/
def AtRel (w W1 : World) (b : Book) (e0 e1 e2 e3 e4 vo vt : Value) (k : Nat) (wr : World) (vs : Value) (xs : List Raw) : Prop :=
  Bx wr (w.heap.size + 2) [e0, e1, e2, e3, e4, .int .i64 b.agency, vs, vo, .int .i64 b.sent, vt, .int .i64 b.cash] 155 ∧ OwnL (fun _ => False) W1.heap.size 23 wr vs xs ∧ xs.length = k ∧
  (∀ i (hi : i < b.seats.length) (hx : i < xs.length), OwnI w.heap.size 3 wr xs[i].v b.seats[i]) ∧ Apart (xs.map (·.v)) ∧ Step W1 wr

theorem AtRel.grown {w W1 wr W6 w2 : World} {b : Book} {e0 e1 e2 e3 e4 vo vt vs : Value} {xs : List Raw} {k : Nat} (h : AtRel w W1 b e0 e1 e2 e3 e4 vo vt k wr vs xs) (hT : Step wr W6) (hg : W6.grownBy w2 vs.ownBlock) :
    Bx w2 (w.heap.size + 2) [e0, e1, e2, e3, e4, .int .i64 b.agency, vs, vo, .int .i64 b.sent, vt, .int .i64 b.cash] 155 := by
  have ho := own_raw h.2.1
  exact (h.1.step hT).keep (S := fun j => vs.ownBlock = some j) (.grown hg fun j hj _ => hj) (apart_bx h.1 ho (by decide))
theorem AtRel.next {w W1 wr W6 w2 : World} {b : Book} {e0 e1 e2 e3 e4 vo vt vs vs' : Value} {xs : List Raw} {k : Nat} (h : AtRel w W1 b e0 e1 e2 e3 e4 vo vt k wr vs xs) (hz : W1.heap.size = w.heap.size + 2) (hlt : k < b.seats.length) (hT : Step wr W6) (x : Raw)
    (hx : OwnI wr.heap.size 3 W6 x.v b.seats[k]) (hown : OwnL (fun _ => False) W1.heap.size 23 w2 vs' (xs ++ [x])) (hg : W6.grownBy w2 vs.ownBlock) :
    AtRel w W1 b e0 e1 e2 e3 e4 vo vt (k + 1) (w2.setCell ⟨w.heap.size + 2, 6, none⟩ vs') vs' (xs ++ [x]) := by
  have hb := h.grown hT hg
  obtain ⟨h1, h2, h3, h4, h5, h6⟩ := h
  have ho := own_raw h2
  have ho' := own_raw hown
  have hw : Wrote (w.heap.size + 2) w2 (w2.setCell ⟨w.heap.size + 2, 6, none⟩ vs') := Wrote.setCell _ _ _ _
  have hwz : w.heap.size ≤ wr.heap.size := by have := h6.size; omega
  have grownNone : wr.grownBy W6 none := ⟨hT.os, hT.tape, hT.output, hT.size, fun j hj _ => hT.block j hj id⟩
  have keepRow : ∀ {base n : Nat} {u : Value} {l : List Value}, W6.ownsRow base 3 1 u n l → (w2.setCell ⟨w.heap.size + 2, 6, none⟩ vs').ownsRow base 3 1 u n l := fun {base n u l} hr => by
    have h7 := hr.kept hg (by
      cases hq : u.ownBlock with
      | none => exact .inl rfl
      | some q => exact .inr fun he => apart_rows hr (ho.kept grownNone (by cases vs.ownBlock <;> simp)) (by decide) q hq he.symm)
    refine h7.kept hw.grown (.inr ?_)
    exact apart_bx hb h7 (by decide)
  have h61 : Step W1 w2 := by
    have := h6.trans hT
    exact StepX.fresh (w := W6) (X := fun j => vs.ownBlock = some j) this (StepX.grown hg fun j hj _ => hj) (fun j hj => (h2.lt j hj).1)
  refine ⟨hb.setCell 6 vs', hown.keptF fun g' hg' => hw.block g' fun e => apart_bx hb ho' (by decide) (e ▸ hg'), by simp [h3], fun i hi hxi => ?_, ?_, ?_⟩
  · by_cases hik : i < xs.length
    · have : (xs ++ [x])[i] = xs[i] := List.getElem_append_left hik
      rw [this]
      exact keepRow ((h4 i hi hik).kept grownNone (by cases (xs[i]).v.ownBlock <;> simp))
    · have hi2 : i = k := by simp at hxi; omega
      subst hi2
      have : (xs ++ [x])[i] = x := by simp [List.getElem_append, h3]
      rw [this]
      exact keepRow (owns_mono hx hwz)
  · rw [List.map_append]
    refine h5.snoc fun y hy k' hk' he => ?_
    obtain ⟨y', hy', rfl⟩ := List.mem_map.1 hy
    obtain ⟨i, hi, rfl⟩ := List.getElem_of_mem hy'
    have a1 := ((h4 i (by omega) hi).lt k' hk').2
    have a2 := (hx.lt k' he).1
    omega
  · exact h61.setNew ⟨w.heap.size + 2, 6, none⟩ vs' (by show W1.heap.size ≤ w.heap.size + 2; omega)

theorem AtRel.done {w W1 wr W6 : World} {h : House} {b : Book} {e0 e1 e2 e3 e4 vo vt vs vo' vt' : Value} {xs : List Raw} {k : Nat} (hr : AtRel w W1 b e0 e1 e2 e3 e4 vo vt k wr vs xs) (hz : W1.heap.size = w.heap.size + 2) (hk : k = b.seats.length) (hT : Step wr W6)
    (hS : Step w W1) (hR : Rep.rep (fun j => w.heap.size ≤ j) w [e0, e1, e2, e3, e4] h) (ho : OwnB wr.heap.size 4 W6 vo' b.off) (ht : OwnL (fun _ => False) wr.heap.size 124 W6 vt' b.took) :
    DeskE w.heap.size ((W6.setCell ⟨w.heap.size + 2, 7, none⟩ vo').setCell ⟨w.heap.size + 2, 9, none⟩ vt') (w.heap.size + 2) h b ∧ Step w ((W6.setCell ⟨w.heap.size + 2, 7, none⟩ vo').setCell ⟨w.heap.size + 2, 9, none⟩ vt') := by
  obtain ⟨h1, h2, h3, h4, h5, h6⟩ := hr
  have hwz : w.heap.size ≤ wr.heap.size := by have := h6.size; omega
  have hw : Wrote (w.heap.size + 2) W6 ((W6.setCell ⟨w.heap.size + 2, 7, none⟩ vo').setCell ⟨w.heap.size + 2, 9, none⟩ vt') := by
    have a := Wrote.setCell W6 (w.heap.size + 2) 7 vo'
    have b := Wrote.setCell (W6.setCell ⟨w.heap.size + 2, 7, none⟩ vo') (w.heap.size + 2) 9 vt'
    exact ⟨b.os.trans a.os, b.tape.trans a.tape, b.output.trans a.output, b.size.trans a.size, fun j hj => (b.block j hj).trans (a.block j hj)⟩
  have hb6 := h1.step hT
  have hb := (hb6.setCell 7 vo').setCell 9 vt'
  have grownNone : wr.grownBy W6 none := ⟨hT.os, hT.tape, hT.output, hT.size, fun j hj _ => hT.block j hj id⟩
  have hst : Step w W6 := hS.trans (h6.trans hT)
  have how := (own_raw h2).kept grownNone (by cases vs.ownBlock <;> simp)
  have hRw : ∀ i (hi : i < b.seats.length) (hx : i < xs.length), OwnI w.heap.size 3 W6 xs[i].v b.seats[i] := fun i hi hx => (h4 i hi hx).kept grownNone (by cases (xs[i]).v.ownBlock <;> simp)
  obtain ⟨ts, ht1, ht2⟩ := ht
  refine ⟨⟨e0, e1, e2, e3, e4, vs, vo', vt', xs.map (·.v), Desk.of hb (by omega) ?_ ?_ ?_ ?_ ?_ h5⟩, Step.wrote hst hw (by omega)⟩
  · exact Rep.keep (keeps_of_wrote hw (by omega)) (Rep.keep (.of_step hst) hR)
  · have := owns_mono (b' := w.heap.size) (how.kept hw.grown (.inr (apart_bx hb6 how (by decide)))) (by omega)
    rw [h3, hk] at this
    exact this
  · intro i hi hx
    have hx' : i < xs.length := by simpa using hx
    rw [List.getElem_map]
    exact (hRw i hi hx').kept hw.grown (.inr (apart_bx hb6 (hRw i hi hx') (by decide)))
  · exact owns_mono (ho.kept hw.grown (.inr (apart_bx hb6 ho (by decide)))) hwz
  · refine OwnL.keptF (w := W6) ⟨ts, owns_mono ht1 hwz, ht2⟩ fun g hg => hw.block g fun e => apart_bx hb6 ht1 (by decide) (e ▸ hg)

set_option maxHeartbeats 2000000 in
theorem at_any (S : Nat → Prop) (h : House) (b : Book) (v u : Value) (w : World) (hv : AV S w v h) (hu : AV S w u b) (hs : b.seats.length ≤ 1000) (hr : ∀ i (hi : i < b.seats.length), b.seats[i].length ≤ 1000000) (ho : b.off.length ≤ 1000) (ht : b.took.length ≤ 1002) :
    Calls Try.prog 87 #[v, u] w fun e w' => ∃ g, e = .returned (.pointer (some ⟨g, 0, none⟩)) ∧ DeskE w.heap.size w' g h b ∧ Step w w' := by
  obtain ⟨cs, rfl, hr0⟩ := hv
  obtain ⟨c0, c1, c2, c3, c4, rfl, h0, h1, h2, h3, h4⟩ := hr0
  obtain ⟨p0, k0, rfl⟩ := h0.form
  obtain ⟨p1, k1, rfl⟩ := h1.form
  obtain ⟨p2, k2, rfl⟩ := h2.form
  obtain ⟨p3, k3, rfl⟩ := h3.form
  obtain ⟨p4, k4, rfl⟩ := h4.form
  have hold : ∀ j, j < w.heap.size → w.heap.size ≤ j → S j := fun j h1 h2 => by omega
  have hR : Rep.rep (fun j => w.heap.size ≤ j) w [.slice p0 h.sectors.length k0, .slice p1 h.prices.length k1, .slice p2 h.dates.length k2, .slice p3 h.frm.length k3, .slice p4 h.holds.length k4] h := ⟨_, _, _, _, _, rfl, h0.weak hold, h1.weak hold, h2.weak hold, h3.weak hold, h4.weak hold⟩
  obtain ⟨d1, d2, d4, rfl, s1, s2, s4⟩ := hu.book
  obtain ⟨q1, m1, rfl⟩ := s1.form
  obtain ⟨q2, m2, rfl⟩ := s2.form
  obtain ⟨q4, m4, rfl⟩ := s4.form
  obtain ⟨W1, hW1⟩ : ∃ W1, W1 = (w.alloc (.cells #[.slice p0 h.sectors.length k0, .slice p1 h.prices.length k1, .slice p2 h.dates.length k2, .slice p3 h.frm.length k3, .slice p4 h.holds.length k4] 43)).alloc (.cells #[.int .i64 b.agency, .slice q1 b.seats.length m1, .slice q2 b.off.length m2, .int .i64 b.sent, .slice q4 b.took.length m4, .int .i64 b.cash] 36) := ⟨_, rfl⟩
  have hb2 : Bx W1 (w.heap.size + 1) [.int .i64 b.agency, .slice q1 b.seats.length m1, .slice q2 b.off.length m2, .int .i64 b.sent, .slice q4 b.took.length m4, .int .i64 b.cash] 36 := by subst hW1; exact Bx.new' _ _ _ _ (by simp)
  have hS : Step w W1 := by subst hW1; exact (by repeat (first | (with_reducible assumption) | (with_reducible exact Step.refl _) | (with_reducible apply Step.s_alloc) | (with_reducible apply Step.s_drew) | (with_reducible apply Step.s_drewN) | (with_reducible refine Step.trans ?_ (by with_reducible assumption))))
  have hz1 : W1.heap.size = w.heap.size + 2 := by subst hW1; simp
  have HR := Lib.hid hR
  have HB2 := Lib.hid hb2
  have HS := Lib.hid hS
  have HZ1 := Lib.hid hz1
  have H1 := Lib.hid s1
  have H2 := Lib.hid s2
  have H4 := Lib.hid s4
  have HRL := Lib.hid hr
  have HW := Lib.hid hW1
  clear hR hb2 hS hz1 h0 h1 h2 h3 h4 s1 s2 s4 hu hold hr hW1
  go_enter Try.func87, Try.ntmps87
  go_wp2
  rw [← HW.out]
  have hb3 := Bx.new' W1 [.slice p0 h.sectors.length k0, .slice p1 h.prices.length k1, .slice p2 h.dates.length k2, .slice p3 h.frm.length k3, .slice p4 h.holds.length k4, .int .i64 b.agency, .slice none 0 0, .slice q2 b.off.length m2, .int .i64 b.sent, .slice q4 b.took.length m4, .int .i64 b.cash] 155 _ HZ1.out
  have h30 : AtRel w W1 b (.slice p0 h.sectors.length k0) (.slice p1 h.prices.length k1) (.slice p2 h.dates.length k2) (.slice p3 h.frm.length k3) (.slice p4 h.holds.length k4) (.slice q2 b.off.length m2) (.slice q4 b.took.length m4) 0 _ _ [] :=
    ⟨hb3, OwnL.nil _ _ _ _, rfl, fun i _ hx => absurd hx (by simp), List.Pairwise.nil, Step.alloc _ _⟩
  go_loopw [19] (fun i wr => ∃ (k : Nat) (vs : Value) (xs : List Raw), k ≤ b.seats.length ∧ i = .int .i64 k ∧ AtRel w W1 b (.slice p0 h.sectors.length k0) (.slice p1 h.prices.length k1) (.slice p2 h.dates.length k2) (.slice p3 h.frm.length k3) (.slice p4 h.holds.length k4) (.slice q2 b.off.length m2) (.slice q4 b.took.length m4) k wr vs xs) (fun i _ => b.seats.length - (intOf i).toNat)
  case atStart => exact ⟨0, _, _, Nat.zero_le _, rfl, h30⟩
  case round =>
    clear hb3 h30
    obtain ⟨k, vs, xs, hk, rfl, hR⟩ := hrel
    have HA := Lib.hid hR
    clear hR
    by_cases hlt : k < b.seats.length
    · obtain ⟨p', c', bb, oo, he, _, _, hp, hc, hbb⟩ := H1.out.rows
      injection he with he1 _ he3
      subst he1 he3
      obtain rfl := hp (by omega)
      obtain ⟨u, hu1, hu2⟩ := hc k hlt
      have HU := Lib.hid (And.intro hu1 hu2)
      clear hp hc hbb hu1 hu2
      have e1 := (HS.out.trans HA.out.2.2.2.2.2).keeps.cell id HU.out.1
      have hx : (0 : Int) ≤ (k : Int) ∧ (k : Int) < (b.seats.length : Int) := by omega
      go_upto_region 6 with (fail)
      have HT := Lib.hid (Step.refl wr)
      refine wp_region_seqM (fun c d v a w h => by cases d <;> exact h) (kdOf [7, 8] []) [0, 0, 2, 6, 14, 30, 0, 64, 192, 510, 1023, 2047, 4095, 8191] [0, 1, 2, 3, 4, 5, 6, 7, 8] [9, 10, 11, 12, 13] (by kernel_rfl) (by kernel_rfl) (fun i T z hi hk => by simp [kdOf] at hk <;> (try (split at hk <;> cases hk))) ?_
      intro Wx hWx
      have HT := Lib.hid hWx
      clear hWx e1
      have f6 := (HA.out.1.step HT.out).cell 6
      simp only [List.getElem?_cons_zero, List.getElem?_cons_succ] at f6
      repeat (first | (refine run_off rfl rfl (by rfl) ?_; (try simp only [Act.put, List.setIfInBounds_toArray, List.set_cons_zero, List.set_cons_succ])) | (refine run_chain_off rfl rfl (by rfl) (K0_mono _) ?_; (try simp only [Act.put, List.setIfInBounds_toArray, List.set_cons_zero, List.set_cons_succ])) | ((refine run_want rfl rfl (by rfl) ⟨?_, fun W hW => ?_, ?_⟩; rotate_left; (· (have d0 := hW.keeps.cell id f6; go_simp; (try with_reducible rfl)))); (try simp only [Act.put, List.setIfInBounds_toArray, List.set_cons_zero, List.set_cons_succ])))
      refine run_chain rfl rfl (by rfl) (fun Wi hWi K' hK => ?_)
      have HTi := Lib.hid (HT.out.trans hWi)
      have HZW := Lib.hid HTi.out.size
      clear hWi HT
      go_simp
      refine (clone_ints S b.seats[k] u Wi (HU.out.2.keep (.of_step ((HS.out.trans HA.out.2.2.2.2.2).trans HTi.out))) (HRL.out k hlt)).mono ?_
      rintro e wn ⟨v', rfl, hv', hSn⟩
      have HT := Lib.hid (HTi.out.trans (StepX.of hSn))
      clear HTi
      have HZI : Hid (wr.heap.size ≤ Wi.heap.size) := HZW
      obtain ⟨pv, cv, rfl, _, _⟩ := hv'.form
      refine hK _ _ (StepX.of hSn) ?_
      clear hSn
      (try simp only [Act.put, List.setIfInBounds_toArray, List.set_cons_zero, List.set_cons_succ])
      refine run_chain rfl rfl (by rfl) (fun Wj hWj K'' hK'' => ?_)
      go_simp
      refine hK'' _ _ (.of (Step.alloc _ _)) ?_
      (try simp only [Act.put, List.setIfInBounds_toArray, List.set_cons_zero, List.set_cons_succ])
      refine run_end (L := [_, _, _, _, _]) rfl (fun W6 hW6 => ?_)
      have hu := (SLe.one (S := avoid (fun _ => False) vs) (w := Wj) (cs := [.slice pv b.seats[k].length cv]) (x := (⟨.slice pv b.seats[k].length cv, rfl⟩ : Raw)) 23 rfl).step hW6
      have hTj : Step wn W6 := (hWj.trans (Step.alloc _ _)).trans hW6
      have hv6 : OwnI wr.heap.size 3 W6 (.slice pv b.seats[k].length cv) b.seats[k] := owns_mono (OwnI.of (hv'.step hTj)) HZI.out
      have HV6 := Lib.hid hv6
      have HT6 := Lib.hid (HT.out.trans hTj)
      have hown := HA.out.2.1.step HT6.out
      have hlen := HA.out.2.2.1
      have hn1 : xs.length + [(⟨.slice pv b.seats[k].length cv, rfl⟩ : Raw)].length = k + 1 := by simp; exact hlen
      have hn2 : k + 1 ≤ maxLen := by simp only [maxLen]; omega
      have hn3 : W1.heap.size ≤ W6.heap.size := Nat.le_trans HA.out.2.2.2.2.2.size HT6.out.size
      clear hv' hWj hW6 hTj hv6 HT f6 hlen
      go_wp2_with (at_builtin; refine wpl_append (α := Raw) (S := fun _ => False) (base := W1.heap.size) (v := vs) (l := xs) (m := [⟨.slice pv b.seats[k].length cv, rfl⟩]) eiRows rfl _ _ rfl rfl rfl hown hu (k + 1) hn1 (xs ++ [⟨.slice pv b.seats[k].length cv, rfl⟩]) rfl hn2 (by omega) hn3 ?_)
      intro p2 c2 w2 hown4 hg4
      have hb4 := HA.out.grown HT6.out hg4
      have f6 := hb4.cell 6
      have z6 := hb4.frozen 6
      simp only [List.getElem?_cons_zero, List.getElem?_cons_succ] at f6
      have hN := Lib.hid (HA.out.next HZ1.out hlt HT6.out _ HV6.out hown4 hg4)
      clear hb4 hown hu hown4 hg4 hn1 hn2 hn3
      go_wp2
      go_roundw
      case rel => exact ⟨k + 1, _, _, by omega, by go_num, hN.out⟩
      case measure => simp [intOf]; omega
    · have hkk : k = b.seats.length := by omega
      have HK := Lib.hid hkk
      clear hkk
      have f6 := (HA.out.1).cell 6
      have hg2 : w.heap.size + 1 ≠ w.heap.size + 2 := by omega
      obtain ⟨y0, y1, y2, y3, y4, y5⟩ := cells6 (HB2.out.step HA.out.2.2.2.2.2)
      go_upto_region 8 with (fail)
      have HT := Lib.hid (Step.refl wr)
      refine wp_region_seqM (fun c d v a w h => by cases d <;> exact h) (kdOf [4, 7] []) [0, 0, 0, 4, 12, 0, 32, 124, 253, 509, 1021, 2045, 4095, 8191, 16383, 32767] [0, 1, 2, 3, 5, 6, 4, 7, 8, 9, 10] [11, 12, 13, 14, 15] (by kernel_rfl) (by kernel_rfl) (fun i T z hi hk => by simp [kdOf] at hk <;> (try (split at hk <;> cases hk))) ?_
      intro Wx hWx
      have HT := Lib.hid hWx
      clear hWx
      have y2 := HT.out.keeps.cell id y2
      have y4 := HT.out.keeps.cell id y4
      repeat (first | (refine run_off rfl rfl (by rfl) ?_; (try simp only [Act.put, List.setIfInBounds_toArray, List.set_cons_zero, List.set_cons_succ])) | (refine run_chain_off rfl rfl (by rfl) (K0_mono _) ?_; (try simp only [Act.put, List.setIfInBounds_toArray, List.set_cons_zero, List.set_cons_succ])) | ((refine run_want rfl rfl (by rfl) ⟨?_, fun W hW => ?_, ?_⟩; rotate_left; (· (have d0 := hW.keeps.cell id y2; have d1 := hW.keeps.cell id y4; go_simp; (try with_reducible rfl)))); (try simp only [Act.put, List.setIfInBounds_toArray, List.set_cons_zero, List.set_cons_succ])))
      refine run_chain rfl rfl (by rfl) (fun Wi hWi K' hK => ?_)
      have HTi := Lib.hid (HT.out.trans hWi)
      have HZW := Lib.hid HTi.out.size
      clear hWi HT
      go_simp
      refine (clone_bools S b.off _ Wi (H2.out.keep (.of_step ((HS.out.trans HA.out.2.2.2.2.2).trans HTi.out))) (by omega)).mono ?_
      rintro e wn ⟨vo, rfl, hvo, hSn⟩
      have HT := Lib.hid (HTi.out.trans (StepX.of hSn))
      clear HTi
      obtain ⟨po, co, rfl, _, _⟩ := hvo.form
      have HVO := Lib.hid (OwnB.of hvo)
      have HZI := HZW
      have HT1 := HT
      have HT := Lib.hid (Step.refl wn)
      have HWN : Hid (Step wr wn) := HT1
      refine hK _ _ (StepX.of hSn) ?_
      clear hSn
      (try simp only [Act.put, List.setIfInBounds_toArray, List.set_cons_zero, List.set_cons_succ])
      clear hvo HT1
      have y4 := ((HA.out.2.2.2.2.2.trans HWN.out).trans HT.out).keeps.cell id ((HB2.out).cell 4)
      repeat (first | (refine run_off rfl rfl (by rfl) ?_; (try simp only [Act.put, List.setIfInBounds_toArray, List.set_cons_zero, List.set_cons_succ])) | (refine run_chain_off rfl rfl (by rfl) (K0_mono _) ?_; (try simp only [Act.put, List.setIfInBounds_toArray, List.set_cons_zero, List.set_cons_succ])) | ((refine run_want rfl rfl (by rfl) ⟨?_, fun W hW => ?_, ?_⟩; rotate_left; (· (have d0 := hW.keeps.cell id y4; go_simp; (try with_reducible rfl)))); (try simp only [Act.put, List.setIfInBounds_toArray, List.set_cons_zero, List.set_cons_succ])))
      refine run_chain rfl rfl (by rfl) (fun Wi hWi K' hK => ?_)
      have HTi := Lib.hid (HT.out.trans hWi)
      have HZW := Lib.hid HTi.out.size
      clear hWi HT
      go_simp
      refine (clone_keys S b.took _ Wi (H4.out.keep (.of_step (((HS.out.trans HA.out.2.2.2.2.2).trans HWN.out).trans HTi.out))) (by omega)).mono ?_
      rintro e wn ⟨vt, rfl, hvt, hSn⟩
      have HT := Lib.hid (HTi.out.trans (StepX.of hSn))
      clear HTi
      obtain ⟨pt, ct, rfl, _, _⟩ := hvt.form
      have HVT := Lib.hid (OwnL.flat (fun _ => False) hvt)
      have HZI2 := HZW
      have HSI := Lib.hid hSn
      refine hK _ _ (StepX.of hSn) ?_
      clear hSn
      (try simp only [Act.put, List.setIfInBounds_toArray, List.set_cons_zero, List.set_cons_succ])
      clear hvt
      repeat (first | (refine run_off rfl rfl (by rfl) ?_; (try simp only [Act.put, List.setIfInBounds_toArray, List.set_cons_zero, List.set_cons_succ])) | (refine run_chain_off rfl rfl (by rfl) (K0_mono _) ?_; (try simp only [Act.put, List.setIfInBounds_toArray, List.set_cons_zero, List.set_cons_succ])) | ((refine run_want rfl rfl (by rfl) ⟨?_, fun W hW => ?_, ?_⟩; rotate_left; (· (skip; go_simp; (try with_reducible rfl)))); (try simp only [Act.put, List.setIfInBounds_toArray, List.set_cons_zero, List.set_cons_succ])))
      refine run_end (L := [_, _, _, _, _]) rfl (fun W6 hW6 => ?_)
      have HTn := Lib.hid (HT.out.trans hW6)
      have HT6 := Lib.hid (HWN.out.trans HTn.out)
      have hnn : ∀ v : Value, v.ownBlock = none ∨ v.ownBlock ≠ none := fun v => by cases v.ownBlock <;> simp
      have HO6 : Hid (OwnB wr.heap.size 4 W6 (.slice po b.off.length co) b.off) := Lib.hid (World.ownsRow.kept (owns_mono HVO.out HZI.out) ⟨HTn.out.os, HTn.out.tape, HTn.out.output, HTn.out.size, fun j hj _ => HTn.out.block j hj id⟩ (hnn _))
      have b6 := HA.out.1.step HT6.out
      have f7 := b6.cell 7
      have z7 := b6.frozen 7
      have f9 := b6.cell 9
      have z9 := b6.frozen 9
      simp only [List.getElem?_cons_zero, List.getElem?_cons_succ] at f7 f9
      have HF := Lib.hid (HA.out.done HZ1.out HK.out HT6.out HS.out HR.out HO6.out (OwnL.step (by obtain ⟨xs', h1, h2⟩ := HVT.out; exact ⟨xs', owns_mono h1 (Nat.le_trans HWN.out.size HZI2.out), h2⟩) hW6))
      clear b6 hW6 y4 y2 y0 y1 y3 y5 f6
      go_wp2
      go_ret
      exact ⟨_, rfl, HF.out⟩
end Go.Proofs.Ytbgfmikbhiblgaa
/- Walks: an act that is refused is caught. -/
namespace Go.Proofs.Ytbgfmikbhiblgaa
set_option linter.unusedSimpArgs false
set_option linter.unusedVariables false
open Go.RowKit Go.BT

/-- The rest of a deferred call, walked as any body. -/
theorem wpS_body {P : Program} {fn : Func} {c : Code} {c₀ : Frame} {cs cs' : List Frame} {R : Ending → FrameMode → World → Prop} {a : Act} {w : World} (u : FrameMode) (R' : Ending → World → Prop) (hcs : cs' = { c₀ with mode := u } :: cs) (hR : ∀ e w', R' e w' → R e u w')
    (h : c.wp P (bodyPost P fn R') a w) : c.wpS P (bodyPostS P fn c₀ cs R) a cs' w := by
  refine wpS_of_wp (wp_mono h fun e a' w' he => ?_)
  cases e with
  | normal => obtain ⟨h1, v, h2, h3⟩ := he; exact ⟨h1, u, hcs, v, h2, hR _ _ h3⟩
  | ret => obtain ⟨h1, v, h2, h3⟩ := he; exact ⟨h1, u, hcs, v, h2, hR _ _ h3⟩
  | panic ch => obtain ⟨h1, h3⟩ := he; exact ⟨h1, u, hcs, hR _ _ h3⟩
  | outgrown => exact ⟨u, hR _ _ he⟩
  | exit id => exact he.elim
  | goto l => exact he.elim

theorem done1_idle (p q : Addr) (w : World) :
    CallsD Try.prog 86 #[.pointer (some p), .pointer (some q)] .returning w fun e u' w' => (e = .returned (.tuple #[]) ∧ Step w w') ∧ u' = .returning := by
  refine callsD_of_wpS Try.func86 rfl fun c₀ cs hu => ?_
  simp only [Try.ntmps86, List.size_toArray, List.length_cons, List.length_nil, Nat.reduceAdd, Nat.reduceSub, Array.replicate_succ, Array.replicate_zero, List.push_toArray, List.append_toArray, List.nil_append, List.cons_append]
  apply wpS_seq
  apply wpS_region
  simp [wpOpsS, go_sem, recoverD, hu, Exit.thenS]
  have hcs : c₀ :: cs = { c₀ with mode := .returning } :: cs := by cases c₀; simp at hu; subst hu; rfl
  refine wpS_body .returning (fun e w' => e = .returned (.tuple #[]) ∧ Step w w') hcs (fun e w' h => ⟨h, rfl⟩) ?_
  clear hcs hu
  go_wp2
  exact bodyPost_ret (results_none rfl _ _ _) rfl ⟨rfl, Step.refl _⟩

theorem assert_refused (v : Value) (w : World) : (Instr.typeAssert (.iface 151 v) 20 151 true).run Try.prog w = .ok (.tuple #[v, .bool true]) w := by kernel_rfl
def caught (c : Int) : List PanicEntry := [{ v := .iface 151 (.agg #[.int .i64 c]), recovered := true }]
set_option maxRecDepth 100000 in
set_option maxHeartbeats 1000000 in
theorem done1_caught (p q : Nat) (c : Int) (x0 x1 x2 x3 x4 x5 y : Value) (w : World) (hp : Bx w p [x0, x1, x2, x3, x4, x5] 36) (hq : Bx w q [y] 38) :
    CallsD Try.prog 86 #[.pointer (some ⟨p, 0, none⟩), .pointer (some ⟨q, 0, none⟩)] (.panicking (refusal c)) w fun e u' w' =>
      (e = .returned (.tuple #[]) ∧ Bx w' p [.int .i64 0, .slice none 0 0, .slice none 0 0, .int .i64 0, .slice none 0 0, .int .i64 0] 36 ∧ Bx w' q [.int .i64 c] 38 ∧ StepX (fun j => j = p ∨ j = q) w w') ∧ u' = .panicking (caught c) := by
  have hpq : p ≠ q := fun e => by subst e; unfold Bx at hp hq; rw [hp] at hq; simp at hq
  have HP := Lib.hid hp
  have HQ := Lib.hid hq
  have HPQ := Lib.hid hpq
  clear hp hq hpq
  refine callsD_of_wpS Try.func86 rfl fun c₀ cs hu => ?_
  simp only [Try.ntmps86, List.size_toArray, List.length_cons, List.length_nil, Nat.reduceAdd, Nat.reduceSub, Array.replicate_succ, Array.replicate_zero, List.push_toArray, List.append_toArray, List.nil_append, List.cons_append]
  apply wpS_seq
  apply wpS_region
  unfold refusal at hu
  obtain ⟨pv, hpv⟩ : ∃ pv, pv = Value.agg #[.int .i64 c] := ⟨_, rfl⟩
  rw [← hpv] at hu
  simp [wpOpsS, go_sem, recoverD, hu, Exit.thenS]
  refine wpS_body (.panicking (caught c)) (fun e w' => e = .returned (.tuple #[]) ∧ Bx w' p [.int .i64 0, .slice none 0 0, .slice none 0 0, .int .i64 0, .slice none 0 0, .int .i64 0] 36 ∧ Bx w' q [.int .i64 c] 38 ∧ StepX (fun j => j = p ∨ j = q) w w') (by rw [hpv]; rfl) (fun e w' h => ⟨h, rfl⟩) ?_
  rw [hpv]
  clear hpv
  have hta := fun w => assert_refused (.agg #[.int .i64 c]) w
  obtain ⟨y0, y1, y2, y3, y4, y5⟩ := cells6 HP.out
  have z0 := HQ.out.cell 0
  clear hu
  go_wp2_with fail
  have y0' := ((Step.alloc w (.cells #[.int .i64 c] 151)).keeps.cell id y0)
  have hlp := HP.out.lt
  have hlq := HQ.out.lt
  have hn1 : w.heap.size ≠ p := by omega
  have hn2 : w.heap.size ≠ q := by omega
  have hn3 : p ≠ w.heap.size := by omega
  have hn4 : q ≠ w.heap.size := by omega
  have hpq := HPQ.out
  have hqp : q ≠ p := fun e => HPQ.out e.symm
  have zz := HP.out.frozen
  have zq := HQ.out.frozen
  go_wp2
  go_region
  clear y0 y1 y2 y3 y4 y5 y0' z0 hlp hlq hn1 hn2 hn3 hn4 zz zq hta
  go_end0
  have b1 := (set6 HP.out (.int .i64 0) (.slice none 0 0) (.slice none 0 0) (.int .i64 0) (.slice none 0 0) (.int .i64 0)).1
  have b2 := ((((((HQ.out.setOther (b := p) (o := 0) (v := .int .i64 0) hqp).setOther (b := p) (o := 1) (v := .slice none 0 0) hqp).setOther (b := p) (o := 2) (v := .slice none 0 0) hqp).setOther (b := p) (o := 3) (v := .int .i64 0) hqp).setOther (b := p) (o := 4) (v := .slice none 0 0) hqp).setOther (b := p) (o := 5) (v := .int .i64 0) hqp).setCell 0 (.int .i64 c)
  refine ⟨rfl, ((b1.setOther (b := q) (o := 0) (v := .int .i64 c) hpq).alloc _).step (.drew _), (b2.alloc _).step (.drew _), ?_⟩
  refine StepX.drew' (StepX.alloc' ?_ _)
  exact (((((((StepX.refl _ w).setCell ⟨p, 0, none⟩ _ (.inl rfl)).setCell ⟨p, 1, none⟩ _ (.inl rfl)).setCell ⟨p, 2, none⟩ _ (.inl rfl)).setCell ⟨p, 3, none⟩ _ (.inl rfl)).setCell ⟨p, 4, none⟩ _ (.inl rfl)).setCell ⟨p, 5, none⟩ _ (.inl rfl)).setCell ⟨q, 0, none⟩ _ (.inr rfl)
end Go.Proofs.Ytbgfmikbhiblgaa
/- Walks: an act is done with a copy of a book. -/
namespace Go.Proofs.Ytbgfmikbhiblgaa
set_option linter.unusedSimpArgs false
set_option linter.unusedVariables false
open Go.RowKit Go.BT

/-- What wrote into new blocks, and into C. -/
theorem _root_.Go.BT.StepX.over {C X : Nat → Prop} {w0 w w' : World} (h : StepX C w0 w) (k : StepX X w w') (hX : ∀ j, X j → w0.heap.size ≤ j ∨ C j) : StepX C w0 w' :=
  ⟨k.os.trans h.os, k.tape.trans h.tape, k.output.trans h.output, Nat.le_trans h.size k.size, fun j hj hn => (k.block j (Nat.lt_of_lt_of_le hj h.size) (fun hx => (hX j hx).elim (fun h => by omega) hn)).trans (h.block j hj hn)⟩
/-- A desk as it stood in a world that agrees with this one from base on. -/
def DeskQ (base : Nat) (w : World) (g : Nat) (h : House) (b : Book) : Prop := ∃ W0, DeskE base W0 g h b ∧ W0.heap.size ≤ w.heap.size ∧ ∀ j, base ≤ j → w.heap[j]? = W0.heap[j]?
theorem DeskE.q {base : Nat} {w : World} {g : Nat} {h : House} {b : Book} (hD : DeskE base w g h b) : DeskQ base w g h b := ⟨w, hD, Nat.le_refl _, fun _ _ => rfl⟩
/-- How an act ends that a desk is handed to: C are the caller's variables that it may write, Z what it leaves in them. -/
def DoEnds (base : Nat) (C : Nat → Prop) (g : Nat) (h : House) (r : Except Int Book) (Z : World → Prop) (e : Ending) (W W' : World) : Prop := match r with
  | .ok b' => e = .returned (.tuple #[]) ∧ DeskQ base W' g h b' ∧ Z W' ∧ StepX (fun j => base ≤ j ∨ C j) W W'
  | .error c => e = .panicked (refusal c) ∧ StepX (fun j => base ≤ j) W W'
def DoneEnds (C : Nat → Prop) (r : Except Int Book) (Z : World → Prop) (w : World) (e : Ending) (w' : World) : Prop := match r with
  | .ok b' => ∃ v', e = .returned (.tuple #[v', .int .i64 0]) ∧ AV (Old w) w' v' b' ∧ Z w' ∧ StepX C w w'
  | .error c => ∃ v', e = .returned (.tuple #[v', .int .i64 c]) ∧ AV (Old w) w' v' noBook ∧ Step w w'
def doneR (h : House) (b : Book) (r : Except Int Book) : Except Int Book := if checkR h b = 0 then r else .error 1

theorem load_errno (w : World) (q : Nat) (c : Value) (h : w.cell? ⟨q, 0, none⟩ = some c) : (loadVar 38 ⟨q, 0, none⟩).run Try.prog w = .ok c w := by
  simp [go_sem, h]
/-- Two results that lie in variables: a struct and a number. -/
theorem leaves_two {P : Program} {fn : Func} {R : Ending → World → Prop} {tmps : Array Value} {w : World} {t u : Tmp} {T U T' : TypeId} {k g q : Nat} {cs : List Value} {y : Value} (hr : fn.results = #[.cell t T, .cell u U]) (hi : SI P T k)
    (ht : tmps.getD t undef = .pointer (some ⟨g, 0, none⟩)) (hu : tmps.getD u undef = .pointer (some ⟨q, 0, none⟩)) (hb : Bx w g cs T') (hk : cs.length = k) (hq : (loadVar U ⟨q, 0, none⟩).run P w = .ok y w) (hR : R (.returned (.tuple #[.agg cs.toArray, y])) w) : Leaves P fn tmps R [] .returning w := by
  refine ⟨_, ?_, hR⟩
  have ht' : tmps[t]?.getD undef = .pointer (some ⟨g, 0, none⟩) := by simpa using ht
  have hu' : tmps[u]?.getD undef = .pointer (some ⟨q, 0, none⟩) := by simpa using hu
  simp [results, hr, ht', hu', asAddr, run_loadVar_bx hi hb hk, hq]
theorem noBook_av {S : Nat → Prop} {w : World} : AV S w (.agg (List.toArray [.int .i64 0, .slice none 0 0, .slice none 0 0, .int .i64 0, .slice none 0 0, .int .i64 0])) noBook := ⟨_, rfl, noBook_rep S w⟩

theorem okDesk_of {h : House} {b : Book} (hc : checkR h b = 0) : OkDesk h b ∧ b.cash = cashL h b.seats ∧ (∀ i (hi : i < b.seats.length), b.seats[i].length ≤ 100) ∧ b.off.length ≤ 6 ∧ b.took.length ≤ 1000 := by
  have hvb : valid h = true ∧ bookB h b = true := by unfold checkR at hc; split at hc <;> simp_all
  obtain ⟨hv, hb⟩ := hvb
  simp only [bookB, bookA, Bool.and_eq_true, decide_eq_true_eq, withinB] at hb
  obtain ⟨⟨⟨⟨⟨⟨⟨a1, a2⟩, a3⟩, a4⟩, a5⟩, a6⟩, a7⟩, _⟩ := hb
  have hbd := bounds_valid hv
  have hrow : ∀ i (hi : i < b.seats.length), (b.seats[i].length : Int) = sizeL h.sectors := fun i hi => by
    have := List.all_eq_true.1 a6 _ (List.getElem_mem hi)
    simp [rowB] at this
    exact this.1
  have hcb := cashTo_bound hv hrow b.seats.length (Nat.le_refl _)
  have hz := hbd.2.2.2.2.2.2.2.1
  refine ⟨⟨hv, a2, a3, hrow, by omega, by omega, ?_, ?_, by omega, by omega⟩, a7, fun i hi => by have := hrow i hi; omega, by omega, a5⟩
  · rw [a7]; unfold cashL; omega
  · rw [a7]; unfold cashL; have := hbd.2.1; omega

set_option maxHeartbeats 2000000 in
theorem done_any (S : Nat → Prop) (h : House) (b : Book) (v u : Value) (w : World) (f : FuncId) (cap : Array Value) (eg : ∀ args w, (callFunc f args).run Try.prog w = .ok (.enter f args) w) (C : Nat → Prop) (r : Except Int Book) (Z : World → Prop)
    (hv : AV S w v h) (hu : AV S w u b) (hC : ∀ j, C j → S j ∧ j < w.heap.size) (hZ : ∀ W W', Z W → StepX (fun j => w.heap.size ≤ j ∧ j < w.heap.size + 4) W W' → Z W')
    (hdo : checkR h b = 0 → ∀ W base g, Step w W → w.heap.size + 4 ≤ base → base ≤ W.heap.size → DeskE base W g h b → Calls Try.prog f (#[.pointer (some ⟨g, 0, none⟩)] ++ cap) W (fun e W' => DoEnds base C g h r Z e W W')) :
    Calls Try.prog 52 #[v, u, .func (.func f) #[] cap] w (fun e w' => DoneEnds C (doneR h b r) Z w e w') := by
  obtain ⟨cs, rfl, hr⟩ := hv
  have hr0 := hr
  obtain ⟨c0, c1, c2, c3, c4, rfl, h0, h1, h2, h3, h4⟩ := hr
  obtain ⟨p0, k0, rfl⟩ := h0.form
  obtain ⟨p1, k1, rfl⟩ := h1.form
  obtain ⟨p2, k2, rfl⟩ := h2.form
  obtain ⟨p3, k3, rfl⟩ := h3.form
  obtain ⟨p4, k4, rfl⟩ := h4.form
  obtain ⟨cs, rfl, hq⟩ := hu
  have hq0 := hq
  obtain ⟨d1, d2, d4, rfl, s1, s2, s4⟩ := hq
  obtain ⟨q1, m1, rfl⟩ := s1.form
  obtain ⟨q2, m2, rfl⟩ := s2.form
  obtain ⟨q4, m4, rfl⟩ := s4.form
  have hmf : ∀ (fn : Fn) (first cap : Array Value) (w : World), (Instr.makeFunc fn first cap).run Try.prog w = .ok (.func fn first cap) w := fun _ _ _ _ => rfl
  obtain ⟨W4, hW4⟩ : ∃ W4, W4 = (((w.alloc (.cells #[.slice p0 h.sectors.length k0, .slice p1 h.prices.length k1, .slice p2 h.dates.length k2, .slice p3 h.frm.length k3, .slice p4 h.holds.length k4] 43)).alloc (.cells #[.int .i64 b.agency, .slice q1 b.seats.length m1, .slice q2 b.off.length m2, .int .i64 b.sent, .slice q4 b.took.length m4, .int .i64 b.cash] 36)).alloc (.cells #[.int .i64 0, .slice none 0 0, .slice none 0 0, .int .i64 0, .slice none 0 0, .int .i64 0] 36)).alloc (.cells #[.int .i64 0] 38) := ⟨_, rfl⟩
  have hb0 : Bx W4 w.heap.size [.slice p0 h.sectors.length k0, .slice p1 h.prices.length k1, .slice p2 h.dates.length k2, .slice p3 h.frm.length k3, .slice p4 h.holds.length k4] 43 := by subst hW4; exact (((Bx.new _ _ _).alloc _).alloc _).alloc _
  have hb1 : Bx W4 (w.heap.size + 1) [.int .i64 b.agency, .slice q1 b.seats.length m1, .slice q2 b.off.length m2, .int .i64 b.sent, .slice q4 b.took.length m4, .int .i64 b.cash] 36 := by subst hW4; exact ((Bx.new' _ _ _ _ (by simp)).alloc _).alloc _
  have hb2 : Bx W4 (w.heap.size + 2) [.int .i64 0, .slice none 0 0, .slice none 0 0, .int .i64 0, .slice none 0 0, .int .i64 0] 36 := by subst hW4; exact (Bx.new' _ _ _ _ (by simp)).alloc _
  have hb3 : Bx W4 (w.heap.size + 3) [.int .i64 0] 38 := by subst hW4; exact Bx.new' _ _ _ _ (by simp)
  have hS : Step w W4 := by subst hW4; exact (by repeat (first | (with_reducible assumption) | (with_reducible exact Step.refl _) | (with_reducible apply Step.s_alloc) | (with_reducible apply Step.s_drew) | (with_reducible apply Step.s_drewN) | (with_reducible refine Step.trans ?_ (by with_reducible assumption))))
  have hz4 : W4.heap.size = w.heap.size + 4 := by subst hW4; simp
  have HB0 := Lib.hid hb0
  have HB1 := Lib.hid hb1
  have HB2 := Lib.hid hb2
  have HB3 := Lib.hid hb3
  have HS := Lib.hid hS
  have HZ4 := Lib.hid hz4
  have HR := Lib.hid (Rep.keep (.of_step hS) hr0)
  have HQ := Lib.hid (Rep.keep (.of_step hS) hq0)
  have HW := Lib.hid hW4
  have HC := Lib.hid hC
  have HZ := Lib.hid hZ
  have HDO := Lib.hid hdo
  clear hC hZ hdo h0 h1 h2 h3 h4 s1 s2 s4 hb0 hb1 hb2 hb3 hS hz4 hr0 hq0 hW4
  go_enter_defers Try.func52, Try.ntmps52
  go_wp2_with fail
  rw [← HW.out]
  clear HW
  refine (check_any S h b _ _ W4 ⟨_, rfl, HR.out⟩ ⟨_, rfl, HQ.out⟩).mono ?_
  rintro e w1 ⟨rfl, hS1⟩
  have HT := Lib.hid hS1
  clear hS1
  by_cases hck : checkR h b = 0
  rotate_left
  · have hck1 : checkR h b = 1 := by unfold checkR at hck ⊢; split <;> simp_all
    have hres : doneR h b r = .error 1 := by simp [doneR, hck1]
    have HRES := Lib.hid hres
    rw [hck1]
    clear hck hck1 hres
    obtain ⟨f0, f1, f2, f3, f4, f5⟩ := cells6 (HB2.out.step HT.out)
    have zf := (HB2.out.step HT.out).frozen
    have z0 := (HB3.out.step HT.out).cell 0
    have z1 := (HB3.out.step HT.out).frozen
    go_wp2
    clear f0 f1 f2 f3 f4 f5 zf z0 z1
    have b2 := set6 (HB2.out.step HT.out) (.int .i64 0) (.slice none 0 0) (.slice none 0 0) (.int .i64 0) (.slice none 0 0) (.int .i64 0)
    have b2' := b2.1.setOther (b := w.heap.size + 3) (o := 0) (v := .int .i64 1) (by omega)
    have b3 := ((HB3.out.step HT.out).keep b2.2.keeps (by omega)).setCell 0 (.int .i64 1)
    refine leaves_two (k := 6) rfl siBook rfl rfl b2' rfl (load_errno _ _ _ (b3.cell 0)) ?_
    rw [HRES.out]
    refine ⟨_, rfl, noBook_av, ?_⟩
    refine Step.setNew (StepX.fresh (HS.out.trans HT.out) b2.2 (fun j hj => by omega)) ⟨w.heap.size + 3, 0, none⟩ _ (by show w.heap.size ≤ w.heap.size + 3; omega)
  have hres : doneR h b r = r := by simp [doneR, hck]
  have HDO := Lib.hid (HDO.out hck)
  have HRES := Lib.hid hres
  rw [hck]
  have HCK := Lib.hid hck
  clear hck hres
  obtain ⟨hO, hcash, hrl, hol, htl⟩ := okDesk_of HCK.out
  have hsl : b.seats.length ≤ 1000 := by have := hO.2.2.1; have := (bounds_valid hO.1).2.1; omega
  have hcall := Lib.hid (at_any S h b _ _ w1 ⟨_, rfl, Rep.keep (.of_step HT.out) HR.out⟩ ⟨_, rfl, Rep.keep (.of_step HT.out) HQ.out⟩ hsl (fun i hi => by have := hrl i hi; omega) (by omega) (by omega))
  clear hO hcash hrl hol htl hsl
  obtain ⟨e0, e1, e2, e3, e4⟩ := cells5 (HB0.out.step HT.out)
  obtain ⟨f0, f1, f2, f3, f4, f5⟩ := cells6 (HB1.out.step HT.out)
  go_wp2_with fail
  refine hcall.out.mono ?_
  rintro e w2 ⟨g, rfl, hD, hS2⟩
  have hz1 := HT.out.size
  have hz4 := HZ4.out
  have hz2 := hS2.size
  have hdo := HDO.out w2 w1.heap.size g ((HS.out.trans HT.out).trans hS2) (by omega) hz2 hD
  have HDC := Lib.hid hdo
  have HT2 := Lib.hid hS2
  clear hcall HDO hD hS2 e0 e1 e2 e3 e4 f0 f1 f2 f3 f4 f5 hdo hz1 hz4 hz2
  go_wp2_with fail
  refine HDC.out.mono ?_
  rintro e w3 he
  clear HDC
  cases hr : r with
  | error c =>
    rw [hr] at he
    obtain ⟨rfl, hS3⟩ := he
    have HS3 := Lib.hid hS3
    clear hS3
    have hz1 := HT.out.size
    have hz4 := HZ4.out
    have hb2 := ((HB2.out.step HT.out).step HT2.out).keep HS3.out.keeps (by omega)
    have hb3 := ((HB3.out.step HT.out).step HT2.out).keep HS3.out.keeps (by omega)
    refine leaves_cons (f := 86) (args := #[.pointer (some ⟨w.heap.size + 2, 0, none⟩), .pointer (some ⟨w.heap.size + 3, 0, none⟩)]) (by simp) (by simp [go_sem]) ?_
    refine (done1_caught (w.heap.size + 2) (w.heap.size + 3) c _ _ _ _ _ _ _ w3 hb2 hb3).mono ?_
    rintro e u' w4 ⟨⟨rfl, hb4, hb5, hS4⟩, rfl⟩
    show Leaves _ _ _ _ [] .returning w4
    refine leaves_two (k := 6) rfl siBook rfl rfl hb4 rfl (load_errno _ _ _ (hb5.cell 0)) ?_
    rw [HRES.out, hr]
    have hS0 : Step w w3 := StepX.fresh ((HS.out.trans HT.out).trans HT2.out) HS3.out (fun j hj => by omega)
    exact ⟨_, rfl, noBook_av, StepX.fresh hS0 hS4 (fun j hj => by rcases hj with rfl | rfl <;> omega)⟩
  | ok b' =>
    rw [hr] at he
    obtain ⟨rfl, hD, hZ3, hS3⟩ := he
    obtain ⟨W0, ⟨x0, x1, x2, x3, x4, vs, vo, vt, xs, hD⟩, hq1, hq2⟩ := hD
    have HD := Lib.hid hD
    have HQ12 := Lib.hid (And.intro hq1 hq2)
    have hbx3 : Bx w3 g [x0, x1, x2, x3, x4, .int .i64 b'.agency, vs, vo, .int .i64 b'.sent, vt, .int .i64 b'.cash] 155 := by unfold Bx; rw [hq2 g hD.gb]; exact hD.bx
    clear hq1 hq2
    have HZ3 := Lib.hid hZ3
    have HS3 := Lib.hid hS3
    have HRR := Lib.hid hr
    have hC := HC.out
    have hz1 := HT.out.size
    have hz4 := HZ4.out
    have hn2 : ¬ (w1.heap.size ≤ w.heap.size + 2 ∨ C (w.heap.size + 2)) := fun h => h.elim (fun h => by omega) (fun h => by have := (hC _ h).2; omega)
    have hn3 : ¬ (w1.heap.size ≤ w.heap.size + 3 ∨ C (w.heap.size + 3)) := fun h => h.elim (fun h => by omega) (fun h => by have := (hC _ h).2; omega)
    have HB2' := Lib.hid (((HB2.out.step HT.out).step HT2.out).keep HS3.out.keeps hn2)
    have HB3' := Lib.hid (((HB3.out.step HT.out).step HT2.out).keep HS3.out.keeps hn3)
    have HZZ := Lib.hid (And.intro hz1 hz4)
    obtain ⟨_, e5, e6, e7, e8, e9, e10⟩ := cells11 hbx3
    clear hbx3
    obtain ⟨f0, f1, f2, f3, f4, f5⟩ := cells6 HB2'.out
    have zf := HB2'.out.frozen
    have z0 := HB3'.out.cell 0
    have z1 := HB3'.out.frozen
    obtain ⟨px, cx, rfl, _, _⟩ := owns_form hD.outer
    obtain ⟨py, cy, rfl, _, _⟩ := owns_form hD.off
    obtain ⟨pz, cz, rfl, _, _⟩ := hD.took.form
    clear hD hZ3 hS3 hr hC hz1 hz4 hn2 hn3
    go_wp2
    clear e5 e6 e7 e8 e9 e10 f0 f1 f2 f3 f4 f5 zf z0 z1
    have hz1 := HZZ.out.1
    have hz4 := HZZ.out.2
    have b2 := set6 HB2'.out (.int .i64 b'.agency) (.slice px b'.seats.length cx) (.slice py b'.off.length cy) (.int .i64 b'.sent) (.slice pz b'.took.length cz) (.int .i64 b'.cash)
    have b2' := b2.1.setOther (b := w.heap.size + 3) (o := 0) (v := .int .i64 0) (by omega)
    have b3 := (HB3'.out.keep b2.2.keeps (by omega)).setCell 0 (.int .i64 0)
    have s2 : StepX (fun j => j = w.heap.size + 2 ∨ j = w.heap.size + 3) w3 _ := (b2.2.mono (fun _ _ h => .inl h)).setCell ⟨w.heap.size + 3, 0, none⟩ (.int .i64 0) (.inr rfl)
    refine leaves_cons (f := 86) (args := #[.pointer (some ⟨w.heap.size + 2, 0, none⟩), .pointer (some ⟨w.heap.size + 3, 0, none⟩)]) (by simp) (by simp [go_sem]) ?_
    refine (done1_idle _ _ _).mono ?_
    rintro e u' w4 ⟨⟨rfl, hS4⟩, rfl⟩
    have s4 := s2.trans (.of hS4)
    show Leaves _ _ _ _ [] .returning w4
    refine leaves_two (k := 6) rfl siBook rfl rfl (b2'.step hS4) rfl (load_errno _ _ _ ((b3.step hS4).cell 0)) ?_
    rw [HRES.out, HRR.out]
    refine ⟨_, rfl, ⟨_, rfl, ?_⟩, HZ.out w3 w4 HZ3.out (s4.mono fun j _ hj => by omega), ?_⟩
    · have h3 := Rep.keep (w' := w3) ⟨HQ12.out.1, fun j _ hs => HQ12.out.2 j (by omega)⟩ (HD.out.book (S := fun j => j < w1.heap.size) (fun j hj => by omega))
      exact Rep.weak (fun j _ hj => by unfold Old at hj; omega) (Rep.keep (s4.keeps.mono fun j _ hj => by omega) h3)
    · have a1 : StepX C w w2 := .of ((HS.out.trans HT.out).trans HT2.out)
      exact (a1.over HS3.out (fun j hj => hj.imp (fun h => by omega) id)).over s4 (fun j hj => .inl (by omega))
end Go.Proofs.Ytbgfmikbhiblgaa
/- Walks: Sell. -/
namespace Go.Proofs.Ytbgfmikbhiblgaa
set_option linter.unusedSimpArgs false
set_option linter.unusedVariables false
open Go.RowKit Go.BT

theorem DeskEnds.do {base g : Nat} {h : House} {r : Except Int Book} {e : Ending} {W W' : World} (C : Nat → Prop) (hh : DeskEnds base g h r e W W') : DoEnds base C g h r (fun _ => True) e W W' := by
  obtain ⟨h1, h2⟩ := hh
  cases r with
  | ok b' => exact ⟨h2.1, DeskE.q h2.2, trivial, h1.mono fun j _ hj => .inl hj⟩
  | error c => exact ⟨h2, h1⟩
def actR (r : Except Int Book) : Book × Int := match r with
  | .ok b => (b, 0)
  | .error c => (noBook, c)
theorem DoneEnds.act {C : Nat → Prop} (hC : ∀ j, ¬ C j) {r : Except Int Book} {Z : World → Prop} {w w' : World} {e : Ending} (h : DoneEnds C r Z w e w') : ∃ v', e = .returned (.tuple #[v', .int .i64 (actR r).2]) ∧ AV (Old w) w' v' (actR r).1 ∧ Step w w' := by
  cases r with
  | ok b => obtain ⟨v', h1, h2, h3, h4⟩ := h; exact ⟨v', h1, h2, h4.mono fun j _ hj => hC j hj⟩
  | error c => obtain ⟨v', h1, h2, h3⟩ := h; exact ⟨v', h1, h2, h3⟩

set_option maxHeartbeats 1000000 in
theorem sell1_any {base : Nat} {W : World} {g : Nat} {h : House} {b : Book} (hD : DeskE base W g h b) (hO : OkDesk h b) (s n y d : Int) (a1 a2 a3 a4 : Nat) (h1 : W.cell? ⟨a1, 0, none⟩ = some (.int .i64 s)) (h2 : W.cell? ⟨a2, 0, none⟩ = some (.int .i64 n)) (h3 : W.cell? ⟨a3, 0, none⟩ = some (.int .i64 y)) (h4 : W.cell? ⟨a4, 0, none⟩ = some (.int .i64 d)) :
    Calls Try.prog 66 #[.pointer (some ⟨g, 0, none⟩), .pointer (some ⟨a1, 0, none⟩), .pointer (some ⟨a2, 0, none⟩), .pointer (some ⟨a3, 0, none⟩), .pointer (some ⟨a4, 0, none⟩)] W (fun e W' => DeskEnds base g h (sellD h b s n y d) e W W') := by
  obtain ⟨c0, c1, c2, c3, c4, vs, vo, vt, xs, D⟩ := hD
  have hcall := Lib.hid (sell_any D hO s n y d)
  clear D hO
  go_enter Try.func66, Try.ntmps66
  go_wp2_with fail
  refine hcall.out.mono ?_
  clear hcall
  rintro e w' he
  cases hr : sellD h b s n y d with
  | ok b' =>
    rw [hr] at he
    obtain ⟨hX, rfl, hD⟩ := he
    have HH := Lib.hid (And.intro hX hD)
    clear hX hD
    go_wp2
    go_end0
    exact .yes hr HH.out.1 HH.out.2
  | error c =>
    rw [hr] at he
    obtain ⟨hX, rfl⟩ := he
    exact ⟨rfl, .noX hr hX⟩

set_option maxHeartbeats 1000000 in
theorem Sell_any (S : Nat → Prop) (h : House) (b : Book) (v u : Value) (s n y d : Int) (w : World) (hv : AV S w v h) (hu : AV S w u b) :
    Calls Try.prog 31 #[v, u, .int .i64 s, .int .i64 n, .int .i64 y, .int .i64 d] w fun e w' => ∃ v', e = .returned (.tuple #[v', .int .i64 (actR (doneR h b (sellD h b s n y d))).2]) ∧ AV (Old w) w' v' (actR (doneR h b (sellD h b s n y d))).1 ∧ Step w w' := by
  obtain ⟨cs, rfl, hr⟩ := hv
  have hr0 := hr
  obtain ⟨c0, c1, c2, c3, c4, rfl, h0, h1, h2, h3, h4⟩ := hr
  obtain ⟨cs, rfl, hq⟩ := hu
  have hq0 := hq
  obtain ⟨d1, d2, d4, rfl, s1, s2, s4⟩ := hq
  obtain ⟨W7, hW7⟩ : ∃ W7, W7 = ((((((w.alloc (.cells #[c0, c1, c2, c3, c4] 43)).alloc (.cells #[.int .i64 b.agency, d1, d2, .int .i64 b.sent, d4, .int .i64 b.cash] 36)).alloc (.cells #[.int .i64 s] 3)).alloc (.cells #[.int .i64 n] 3)).alloc (.cells #[.int .i64 y] 3)).alloc (.cells #[.int .i64 d] 3)).alloc (.cells #[.int .i64 0, .slice none 0 0, .slice none 0 0, .int .i64 0, .slice none 0 0, .int .i64 0] 36) := ⟨_, rfl⟩
  have hS : Step w W7 := by subst hW7; exact (by repeat (first | (with_reducible assumption) | (with_reducible exact Step.refl _) | (with_reducible apply Step.s_alloc) | (with_reducible apply Step.s_drew) | (with_reducible apply Step.s_drewN) | (with_reducible refine Step.trans ?_ (by with_reducible assumption))))
  have hb2 : Bx W7 (w.heap.size + 2) [.int .i64 s] 3 := by subst hW7; exact ((((Bx.new' _ _ _ _ (by simp)).alloc _).alloc _).alloc _).alloc _
  have hb3 : Bx W7 (w.heap.size + 3) [.int .i64 n] 3 := by subst hW7; exact (((Bx.new' _ _ _ _ (by simp)).alloc _).alloc _).alloc _
  have hb4 : Bx W7 (w.heap.size + 4) [.int .i64 y] 3 := by subst hW7; exact ((Bx.new' _ _ _ _ (by simp)).alloc _).alloc _
  have hb5 : Bx W7 (w.heap.size + 5) [.int .i64 d] 3 := by subst hW7; exact (Bx.new' _ _ _ _ (by simp)).alloc _
  have hb6 : Bx W7 (w.heap.size + 6) [.int .i64 0, .slice none 0 0, .slice none 0 0, .int .i64 0, .slice none 0 0, .int .i64 0] 36 := by subst hW7; exact Bx.new' _ _ _ _ (by simp)
  have hz7 : W7.heap.size = w.heap.size + 7 := by subst hW7; simp
  have hmf : ∀ (fn : Fn) (first cap : Array Value) (w : World), (Instr.makeFunc fn first cap).run Try.prog w = .ok (.func fn first cap) w := fun _ _ _ _ => rfl
  have hcall := Lib.hid ((done_any S h b _ _ W7 66 #[.pointer (some ⟨w.heap.size + 2, 0, none⟩), .pointer (some ⟨w.heap.size + 3, 0, none⟩), .pointer (some ⟨w.heap.size + 4, 0, none⟩), .pointer (some ⟨w.heap.size + 5, 0, none⟩)] (Go.Proofs.enters_of Try.func66 (by kernel_rfl) rfl)
    (fun _ => False) (sellD h b s n y d) (fun _ => True) ⟨_, rfl, Rep.keep (.of_step hS) hr0⟩ ⟨_, rfl, Rep.keep (.of_step hS) hq0⟩ (fun _ h => h.elim) (fun _ _ _ _ => trivial)
    (fun hck W base g hSW h1 h2 hD => (sell1_any hD (okDesk_of hck).1 s n y d _ _ _ _ ((hb2.step hSW).cell 0) ((hb3.step hSW).cell 0) ((hb4.step hSW).cell 0) ((hb5.step hSW).cell 0)).mono fun e w' he => he.do _)).mono fun e w' he => he.act (fun _ h => h))
  have HW := Lib.hid hW7
  have HS := Lib.hid hS
  have HB6 := Lib.hid hb6
  have HZ7 := Lib.hid hz7
  obtain ⟨p0, k0, rfl⟩ := h0.form
  obtain ⟨p1, k1, rfl⟩ := h1.form
  obtain ⟨p2, k2, rfl⟩ := h2.form
  obtain ⟨p3, k3, rfl⟩ := h3.form
  obtain ⟨p4, k4, rfl⟩ := h4.form
  obtain ⟨q1, m1, rfl⟩ := s1.form
  obtain ⟨q2, m2, rfl⟩ := s2.form
  obtain ⟨q4, m4, rfl⟩ := s4.form
  clear hW7 hS hb2 hb3 hb4 hb5 hb6 hz7 h0 h1 h2 h3 h4 s1 s2 s4 hr0 hq0
  go_enter Try.func31, Try.ntmps31
  go_wp2_with fail
  rw [← HW.out]
  clear HW
  refine hcall.out.mono ?_
  clear hcall
  rintro e w1 ⟨v', rfl, hv', hS1⟩
  obtain ⟨b1, b2, b4, rfl, t1, t2, t4⟩ := hv'.book
  obtain ⟨q1, m1, rfl⟩ := t1.form
  obtain ⟨q2, m2, rfl⟩ := t2.form
  obtain ⟨q4, m4, rfl⟩ := t4.form
  have HV := Lib.hid hv'
  have HS1 := Lib.hid hS1
  obtain ⟨f0, f1, f2, f3, f4, f5⟩ := cells6 (HB6.out.step HS1.out)
  have zf := (HB6.out.step HS1.out).frozen
  clear hv' hS1 t1 t2 t4
  go_wp2
  clear f0 f1 f2 f3 f4 f5 zf
  have hz7 := HZ7.out
  have b6 := set6 (HB6.out.step HS1.out) (.int .i64 (actR (doneR h b (sellD h b s n y d))).1.agency) (.slice q1 (actR (doneR h b (sellD h b s n y d))).1.seats.length m1) (.slice q2 (actR (doneR h b (sellD h b s n y d))).1.off.length m2) (.int .i64 (actR (doneR h b (sellD h b s n y d))).1.sent) (.slice q4 (actR (doneR h b (sellD h b s n y d))).1.took.length m4) (.int .i64 (actR (doneR h b (sellD h b s n y d))).1.cash)
  refine ret_struct2 (k := 6) rfl siBook rfl b6.1 rfl rfl ⟨_, rfl, (AV.keep (b6.2.keeps.mono fun j _ hj => ?_) HV.out).weak fun j _ hj => ?_, StepX.fresh (HS.out.trans HS1.out) b6.2 (fun j hj => by omega)⟩
  · unfold Old; omega
  · unfold Old at *; omega
end Go.Proofs.Ytbgfmikbhiblgaa
