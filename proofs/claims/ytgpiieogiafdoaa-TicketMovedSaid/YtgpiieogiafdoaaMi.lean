/- Walks and plain laws, part i. -/
import Derived.Test.YtgpiieogiafdoaaMa
import Derived.Test.YtgpiieogiafdoaaMb
import Derived.Test.YtgpiieogiafdoaaMc
import Derived.Test.YtgpiieogiafdoaaMe
import Derived.Test.YtgpiieogiafdoaaMf
import Derived.Test.YtgpiieogiafdoaaRows
import Derived.BigQuiet
import Derived.Deep.AppendLies
import Derived.Deep.DeepCutAuto
import Derived.Deep.QuietTactic
import Derived.Deep.RegionHeld3
import Derived.Defers
import Derived.Laws.MakeOwn
import Derived.Laws.OwnMore
import Derived.Laws.Pointers
import Derived.Laws.StructEq
import Derived.Lib.Hide
import Derived.LoopIn
import Derived.LoopNIn
import Derived.OwnWalkIn
import Derived.RangeFuncBound
import Derived.RangeFuncCalls
import Derived.RangeFuncLeaves
import Derived.RangeFuncNested
import Derived.Recover
import Derived.Shelf.Abstract
import Derived.Shelf.RegionOpen
import Derived.TacticsInMore
import Derived.WalkKit
import Derived.WalkLawsBesides
import Derived.WalkSmall
import Derived.WalkSpells
import Derived.WideKeyRuns
/- Walks: same, empty. -/
namespace Go.Proofs.Ytgpiieogiafdoaa
set_option linter.unusedSimpArgs false
set_option linter.unusedVariables false
open Go.RowKit Go.BT

theorem empty_any (S : Nat → Prop) (a : Book) (va : Value) (w : World) (ha : AV S w va a) :
    Calls Try.prog 11 #[va] w fun e w' => e = .returned (.bool (alikeB a noBook)) ∧ Step w w' := by
  obtain ⟨cs, rfl, hr⟩ := ha
  have hr0 := hr
  obtain ⟨x1, x2, x4, rfl, h1, h2, h4⟩ := hr
  obtain ⟨p1, k1, rfl⟩ := h1.form
  obtain ⟨p2, k2, rfl⟩ := h2.form
  obtain ⟨p4, k4, rfl⟩ := h4.form
  have hS := Step.alloc w (.cells #[.int .i64 a.agency, .slice p1 a.seats.length k1, .slice p2 a.off.length k2, .int .i64 a.sent, .slice p4 a.took.length k4, .int .i64 a.cash] 39)
  have HR := Lib.hid (Rep.keep (.of_step hS) hr0)
  clear h1 h2 h4 hr0
  go_enter Try.func11, Try.ntmps11
  go_wp2_with fail
  refine (alike_any S a noBook _ _ _ ⟨_, rfl, HR.out⟩ ⟨_, rfl, noBook_rep _ _⟩).mono ?_
  rintro e wn ⟨rfl, hSn⟩
  go_wp2
  go_ret
  exact ⟨rfl, hS.trans hSn⟩

end Go.Proofs.Ytgpiieogiafdoaa
/- Plain: the rows of a book that lies open. -/
namespace Go.Proofs.Ytgpiieogiafdoaa
set_option linter.unusedSimpArgs false
set_option linter.unusedVariables false
open Go.RowKit Go.BT
theorem _root_.Go.BT.AV.rows6 {S : Nat → Prop} {w : World} {c0 c1 c2 c3 c4 c5 : Value} {x : Book} (h : AV S w (.agg #[c0, c1, c2, c3, c4, c5]) x) : SL S w c1 x.seats ∧ SL S w c2 x.off ∧ SL S w c4 x.took := by
  obtain ⟨a1, a2, a4, he, s1, s2, s4⟩ := h.book
  simp only [Value.agg.injEq, Array.mk.injEq, List.cons.injEq, and_true] at he
  obtain ⟨_, rfl, rfl, _, rfl, _⟩ := he
  exact ⟨s1, s2, s4⟩
end Go.Proofs.Ytgpiieogiafdoaa
/- Plain: what the law TicketLate asks of takes, in the codes of the program. -/
namespace Go.Proofs.Ytgpiieogiafdoaa
set_option linter.unusedSimpArgs false
set_option linter.unusedVariables false
open Go.RowKit Go.BT
def tkR (h : House) (b : Book) (m : BT.Message) : Book × Int := actR (doneR h b (takeD h b m))
theorem doneR_ok {h : House} {b : Book} {r : Except Int Book} (hv : valid h = true) (hb : bookB h b = true) : doneR h b r = r := by
  simp [doneR, checkR, hv, hb]
theorem tk_ok {h : House} {b : Book} {m : BT.Message} (hv : valid h = true) (hb : bookB h b = true) (h0 : (tkR h b m).2 = 0) : takeD h b m = .ok (tkR h b m).1 := by
  unfold tkR at h0 ⊢
  rw [doneR_ok hv hb] at h0 ⊢
  cases hr : takeD h b m with
  | ok p => rfl
  | error c =>
    rw [hr] at h0
    have h0 : c = 0 := h0
    unfold takeD at hr
    split at hr
    · cases hr
    · rename_i hne
      injection hr with hr
      exact absurd (hr.trans h0) hne
theorem tk_of {h : House} {b b' : Book} {m : BT.Message} (hv : valid h = true) (hb : bookB h b = true) (h0 : takeD h b m = .ok b') : tkR h b m = (b', 0) := by
  unfold tkR
  rw [doneR_ok hv hb, h0]; rfl
theorem late_twice {h : House} {W : Wd} (hv : valid h = true) (I : WdInv h W) {i : Nat} (hi : i < W.books.length) {m : BT.Message} (h0 : (tkR h (bk W i) m).2 = 0) : tkR h (tkR h (bk W i) m).1 m = (noBook, 6) := by
  have hb := book_valid I hi
  have hr := tk_ok hv hb h0
  have v := take_valid hv hb hr
  have ht := take_twice hr v.2
  generalize (tkR h (bk W i) m).1 = p at *
  unfold tkR
  rw [doneR_ok hv v.1, ht]; rfl
theorem late_both {h : House} {W : Wd} (hv : valid h = true) (I : WdInv h W) {i : Nat} (hi : i < W.books.length) {k q : Nat} (hk : k < W.msgs.length) (hq : q < W.msgs.length) (h1 : (tkR h (bk W i) (ms W k)).2 = 0) (h2 : (tkR h (bk W i) (ms W q)).2 = 0) (hne : ¬ ((ms W k).frm = (ms W q).frm ∧ (ms W k).number = (ms W q).number)) (hfew : (bk W i).took.length < 999) :
    (tkR h (tkR h (bk W i) (ms W k)).1 (ms W q)).2 = 0 ∧ (tkR h (tkR h (bk W i) (ms W q)).1 (ms W k)).2 = 0 ∧ (tkR h (tkR h (bk W i) (ms W k)).1 (ms W q)).1.cash = (tkR h (tkR h (bk W i) (ms W q)).1 (ms W k)).1.cash ∧ (tkR h (tkR h (bk W i) (ms W k)).1 (ms W q)).1.seats = (tkR h (tkR h (bk W i) (ms W q)).1 (ms W k)).1.seats := by
  have hb := book_valid I hi
  have r1 := tk_ok hv hb h1
  have r2 := tk_ok hv hb h2
  have v1 := take_valid hv hb r1
  have v2 := take_valid hv hb r2
  have hn : keyOf (ms W k) ≠ keyOf (ms W q) := fun e => hne ⟨congrArg Key.frm e, congrArg Key.number e⟩
  obtain ⟨b3, e3⟩ := take_after hv I hi hk hq r1 r2 hn hfew
  obtain ⟨b4, e4⟩ := take_after hv I hi hq hk r2 r1 (Ne.symm hn) hfew
  obtain ⟨c1, c2⟩ := take_both hv I hi hk hq r1 r2 e3 e4
  generalize (tkR h (bk W i) (ms W k)).1 = p at *
  generalize (tkR h (bk W i) (ms W q)).1 = p2 at *
  rw [tk_of hv v1.1 e3, tk_of hv v2.1 e4]
  exact ⟨rfl, rfl, c1, c2⟩
end Go.Proofs.Ytgpiieogiafdoaa
