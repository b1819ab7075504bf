/- What the program does with a book at a lost show and at a gift is walked. -/
import Derived.Test.YtbgfmikbhiblgaaMe
import Derived.Test.YtbgfmikbhiblgaaMf
import Derived.Test.YtbgfmikbhiblgaaRows
import Derived.BigQuiet
import Derived.Deep.AppendLies
import Derived.Deep.DeepCutAuto
import Derived.Deep.QuietTactic
import Derived.Deep.RegionHeld3
import Derived.Defers
import Derived.Laws.MakeOwn
import Derived.Laws.OwnMore
import Derived.Laws.Pointers
import Derived.Laws.StructEq
import Derived.Lib.Hide
import Derived.LoopIn
import Derived.LoopNIn
import Derived.OwnWalkIn
import Derived.RangeFuncBound
import Derived.RangeFuncCalls
import Derived.RangeFuncLeaves
import Derived.RangeFuncNested
import Derived.Recover
import Derived.Shelf.Abstract
import Derived.Shelf.RegionOpen
import Derived.TacticsInMore
import Derived.WalkKit
import Derived.WalkLawsBesides
import Derived.WalkSmall
import Derived.WalkSpells
import Derived.WideKeyRuns
/- Walks: Lose. -/
namespace Go.Proofs.Ytbgfmikbhiblgaa
set_option linter.unusedSimpArgs false
set_option linter.unusedVariables false
open Go.RowKit Go.BT

def bookOf {α : Type} (r : Except Int (Book × α)) : Except Int Book := match r with
  | .ok (b, _) => .ok b
  | .error c => .error c
def restOf {α : Type} (z : α) (r : Except Int (Book × α)) : α := match r with
  | .ok (_, l) => l
  | .error _ => z
/-- A book is not valid: no act. -/
def gate {α : Type} (h : House) (b : Book) (r : Except Int α) : Except Int α := if checkR h b = 0 then r else .error 1
theorem gate_book {α : Type} (h : House) (b : Book) (r : Except Int (Book × α)) : bookOf (gate h b r) = doneR h b (bookOf r) := by
  unfold gate doneR
  split <;> rfl
set_option maxHeartbeats 1000000 in
theorem lose1_any {base : Nat} {W : World} {g : Nat} {h : House} {b : Book} (hD : DeskE base W g h b) (hO : OkDesk h b) (hc0 : 0 ≤ b.cash) (s d : Int) (a1 a2 a3 : Nat) (h1 : W.cell? ⟨a1, 0, none⟩ = some (.int .i64 s)) (h2 : W.cell? ⟨a2, 0, none⟩ = some (.int .i64 d)) (y : Value) (h3 : Bx W a3 [y] 37) (hb3 : a3 < base) (hbW : base ≤ W.heap.size) :
    Calls Try.prog 53 #[.pointer (some ⟨g, 0, none⟩), .pointer (some ⟨a1, 0, none⟩), .pointer (some ⟨a2, 0, none⟩), .pointer (some ⟨a3, 0, none⟩)] W (fun e W' => DoEnds base (fun j => j = a3) g h (bookOf (loseD h b s d)) (fun Z => ∃ v', Bx Z a3 [v'] 37 ∧ SL (fun j => j < base) Z v' (restOf [] (loseD h b s d))) e W W') := by
  obtain ⟨c0, c1, c2, c3, c4, vs, vo, vt, xs, D⟩ := hD
  have hcall := Lib.hid (lose_any D hO hc0 s d)
  have H3 := Lib.hid h3
  have HB := Lib.hid (And.intro hb3 hbW)
  clear D hO hc0 h3 hb3 hbW
  go_enter Try.func53, Try.ntmps53
  go_wp2_with fail
  refine hcall.out.mono ?_
  clear hcall
  rintro e w' he
  cases hr : loseD h b s d with
  | ok p =>
    obtain ⟨b', l⟩ := p
    rw [hr] at he
    obtain ⟨v', rfl, hD, hl, hX⟩ := he
    obtain ⟨pv, cv, rfl⟩ := hl.form
    have hb3 := H3.out.keep hX.keeps (by have := HB.out; omega)
    have f0 := hb3.cell 0
    have z0 := hb3.frozen 0
    simp only [List.getElem?_cons_zero] at f0
    have HH := Lib.hid (And.intro hX (And.intro hD (And.intro hl hb3)))
    have HRR := Lib.hid hr
    clear hX hD hl hb3 hr
    go_wp2
    go_end0
    obtain ⟨hX, ⟨x0, x1, x2, x3, x4, ws, wo, wt, xs', hD⟩, hl, hb3⟩ := HH.out
    rw [HRR.out]
    have hw := Wrote.setCell w' a3 0 (.slice pv l.length cv)
    refine ⟨rfl, ⟨w', ⟨x0, x1, x2, x3, x4, ws, wo, wt, xs', hD⟩, Nat.le_of_eq hw.size.symm, fun j hj => hw.block j (by have := HB.out; omega)⟩, ⟨_, hb3.setCell 0 _, ?_⟩, (hX.mono fun j _ hj => .inl hj).setCell ⟨a3, 0, none⟩ _ (.inr rfl)⟩
    · exact (hl.weak fun j _ hj => by have := HB.out; omega).keep (.wrote hw HB.out.1)
  | error c =>
    rw [hr] at he
    obtain ⟨rfl, hX⟩ := he
    exact ⟨rfl, by rw [hr]; exact ⟨rfl, hX⟩⟩

theorem okDesk_cash {h : House} {b : Book} (hc : checkR h b = 0) : 0 ≤ b.cash := by
  obtain ⟨hO, hcash, _⟩ := okDesk_of hc
  have := cashTo_bound hO.1 hO.2.2.2.1 b.seats.length (Nat.le_refl _)
  rw [hcash]; unfold cashL; omega
theorem DoneEnds.lose {h : House} {b : Book} {r : Except Int (Book × List BT.Move)} {w w' : World} {e : Ending} {a3 : Nat} (ha : Bx w a3 [.slice none 0 0] 37)
    (hd : DoneEnds (fun j => j = a3) (doneR h b (bookOf r)) (fun Z => ∃ v', Bx Z a3 [v'] 37 ∧ SL (fun j => j < w.heap.size + 4) Z v' (restOf [] r)) w e w') :
    ∃ v' l', e = .returned (.tuple #[v', .int .i64 (actR (bookOf (gate h b r))).2]) ∧ AV (Old w) w' v' (actR (bookOf (gate h b r))).1 ∧ Bx w' a3 [l'] 37 ∧ SL (Old w) w' l' (restOf [] (gate h b r)) ∧ StepX (fun j => j = a3) w w' := by
  rw [gate_book]
  unfold gate
  by_cases hc : checkR h b = 0
  · rw [if_pos hc]
    rw [show doneR h b (bookOf r) = bookOf r by simp [doneR, hc]] at hd ⊢
    cases r with
    | ok p =>
      obtain ⟨v', h1, h2, ⟨l', h3, h4⟩, h5⟩ := hd
      exact ⟨v', l', h1, h2, h3, h4.weak (fun j _ hj => by unfold Old at hj; omega), h5⟩
    | error c =>
      obtain ⟨v', h1, h2, h3⟩ := hd
      exact ⟨v', _, h1, h2, ha.step h3, SL.nil _ _, .of h3⟩
  · rw [if_neg hc]
    rw [show doneR h b (bookOf r) = .error 1 by simp [doneR, hc]] at hd ⊢
    obtain ⟨v', h1, h2, h3⟩ := hd
    exact ⟨v', _, h1, h2, ha.step h3, SL.nil _ _, .of h3⟩

set_option maxHeartbeats 1000000 in
theorem Lose_any (S : Nat → Prop) (h : House) (b : Book) (v u : Value) (s d : Int) (w : World) (hv : AV S w v h) (hu : AV S w u b) :
    Calls Try.prog 14 #[v, u, .int .i64 s, .int .i64 d] w fun e w' => ∃ v' l', e = .returned (.tuple #[v', l', .int .i64 (actR (bookOf (gate h b (loseD h b s d)))).2]) ∧ AV (Old w) w' v' (actR (bookOf (gate h b (loseD h b s d)))).1 ∧ SL (Old w) w' l' (restOf [] (gate h b (loseD h b s d))) ∧ Step w w' := by
  obtain ⟨cs, rfl, hr⟩ := hv
  have hr0 := hr
  obtain ⟨c0, c1, c2, c3, c4, rfl, h0, h1, h2, h3, h4⟩ := hr
  obtain ⟨cs, rfl, hq⟩ := hu
  have hq0 := hq
  obtain ⟨d1, d2, d4, rfl, s1, s2, s4⟩ := hq
  obtain ⟨W6, hW6⟩ : ∃ W6, W6 = (((((w.alloc (.cells #[c0, c1, c2, c3, c4] 43)).alloc (.cells #[.int .i64 b.agency, d1, d2, .int .i64 b.sent, d4, .int .i64 b.cash] 36)).alloc (.cells #[.int .i64 s] 3)).alloc (.cells #[.int .i64 d] 3)).alloc (.cells #[.int .i64 0, .slice none 0 0, .slice none 0 0, .int .i64 0, .slice none 0 0, .int .i64 0] 36)).alloc (.cells #[.slice none 0 0] 37) := ⟨_, rfl⟩
  have hS : Step w W6 := by subst hW6; exact (by repeat (first | (with_reducible assumption) | (with_reducible exact Step.refl _) | (with_reducible apply Step.s_alloc) | (with_reducible apply Step.s_drew) | (with_reducible apply Step.s_drewN) | (with_reducible refine Step.trans ?_ (by with_reducible assumption))))
  have hb2 : Bx W6 (w.heap.size + 2) [.int .i64 s] 3 := by subst hW6; exact (((Bx.new' _ _ _ _ (by simp)).alloc _).alloc _).alloc _
  have hb3 : Bx W6 (w.heap.size + 3) [.int .i64 d] 3 := by subst hW6; exact ((Bx.new' _ _ _ _ (by simp)).alloc _).alloc _
  have hb4 : Bx W6 (w.heap.size + 4) [.int .i64 0, .slice none 0 0, .slice none 0 0, .int .i64 0, .slice none 0 0, .int .i64 0] 36 := by subst hW6; exact (Bx.new' _ _ _ _ (by simp)).alloc _
  have hb5 : Bx W6 (w.heap.size + 5) [.slice none 0 0] 37 := by subst hW6; exact Bx.new' _ _ _ _ (by simp)
  have hz6 : W6.heap.size = w.heap.size + 6 := by subst hW6; simp
  have hmf : ∀ (fn : Fn) (first cap : Array Value) (w : World), (Instr.makeFunc fn first cap).run Try.prog w = .ok (.func fn first cap) w := fun _ _ _ _ => rfl
  have hold : ∀ j, j < w.heap.size → w.heap.size ≤ j → S j := fun j h1 h2 => by omega
  have hcall := Lib.hid ((done_any (fun j => w.heap.size ≤ j) h b _ _ W6 53 #[.pointer (some ⟨w.heap.size + 2, 0, none⟩), .pointer (some ⟨w.heap.size + 3, 0, none⟩), .pointer (some ⟨w.heap.size + 5, 0, none⟩)] (Go.Proofs.enters_of Try.func53 (by kernel_rfl) rfl)
    (fun j => j = w.heap.size + 5) (bookOf (loseD h b s d)) (fun Z => ∃ v', Bx Z (w.heap.size + 5) [v'] 37 ∧ SL (fun j => j < W6.heap.size + 4) Z v' (restOf [] (loseD h b s d)))
    ⟨_, rfl, Rep.keep (.of_step hS) (Rep.weak hold hr0)⟩ ⟨_, rfl, Rep.keep (.of_step hS) (Rep.weak hold hq0)⟩ (fun j hj => ⟨by omega, by omega⟩)
    (fun W W' ⟨v', hz, hl⟩ hX => ⟨v', hz.keep hX.keeps (by omega), hl.keep (hX.keeps.mono fun j _ hj => by omega)⟩)
    (fun hck W base g hSW h1 h2 hD => (lose1_any hD (okDesk_of hck).1 (okDesk_cash hck) s d _ _ _ ((hb2.step hSW).cell 0) ((hb3.step hSW).cell 0) _ (hb5.step hSW) (by omega) h2).mono fun e w' he => by
      cases hrr : loseD h b s d with
      | ok p =>
        rw [hrr] at he
        obtain ⟨e1, e2, ⟨v', e3, e4⟩, e5⟩ := he
        exact ⟨e1, e2, ⟨v', e3, e4.weak fun j _ hj => by omega⟩, e5⟩
      | error c => rw [hrr] at he; exact he)).mono fun e w' he => he.lose hb5)
  have HW := Lib.hid hW6
  have HS := Lib.hid hS
  have HB4 := Lib.hid hb4
  have HZ6 := Lib.hid hz6
  obtain ⟨p0, k0, rfl⟩ := h0.form
  obtain ⟨p1, k1, rfl⟩ := h1.form
  obtain ⟨p2, k2, rfl⟩ := h2.form
  obtain ⟨p3, k3, rfl⟩ := h3.form
  obtain ⟨p4, k4, rfl⟩ := h4.form
  obtain ⟨q1, m1, rfl⟩ := s1.form
  obtain ⟨q2, m2, rfl⟩ := s2.form
  obtain ⟨q4, m4, rfl⟩ := s4.form
  clear hW6 hS hb2 hb3 hb4 hb5 hz6 h0 h1 h2 h3 h4 s1 s2 s4 hr0 hq0 hold
  go_enter Try.func14, Try.ntmps14
  go_wp2_with fail
  rw [← HW.out]
  clear HW
  refine hcall.out.mono ?_
  clear hcall
  rintro e w1 ⟨v', l', rfl, hv', hb5, hl', hS1⟩
  generalize hbk : (actR (bookOf (gate h b (loseD h b s d)))).1 = bk at *
  generalize hec : (actR (bookOf (gate h b (loseD h b s d)))).2 = ec at *
  have HBK := Lib.hid (And.intro hbk hec)
  obtain ⟨b1, b2, b4, rfl, t1, t2, t4⟩ := hv'.book
  obtain ⟨q1, m1, rfl⟩ := t1.form
  obtain ⟨q2, m2, rfl⟩ := t2.form
  obtain ⟨q4, m4, rfl⟩ := t4.form
  obtain ⟨ql, ml, rfl⟩ := hl'.form
  have HV := Lib.hid (And.intro hv' hl')
  have hb4' := HB4.out.keep hS1.keeps (by omega)
  have HS1 := Lib.hid (And.intro hS1 hb4')
  have y0 := hb5.cell 0
  simp only [List.getElem?_cons_zero] at y0
  obtain ⟨f0, f1, f2, f3, f4, f5⟩ := cells6 hb4'
  have zf := hb4'.frozen
  have hn1 := HZ6.out
  have hn2 := hS1.size
  have hn3 : w.heap.size + 4 < w1.heap.size := by omega
  have hn4 : w.heap.size + 5 < w1.heap.size := by omega
  clear hv' hS1 t1 t2 t4 hb5 hl' hbk hec hb4' hn1 hn2
  go_wp2
  have hzz : w.heap.size + 4 ≠ w1.heap.size := by omega
  have hzz2 : w1.heap.size ≠ w.heap.size + 4 := by omega
  go_region
  clear y0 f0 f1 f2 f3 f4 f5 zf hn3 hn4 hzz hzz2
  have b6 := set6 HS1.out.2 (.int .i64 bk.agency) (.slice q1 bk.seats.length m1) (.slice q2 bk.off.length m2) (.int .i64 bk.sent) (.slice q4 bk.took.length m4) (.int .i64 bk.cash)
  go_wp2
  have hz6 := HZ6.out
  have hX : StepX (fun j => j = w.heap.size + 4) w1 _ := (b6.2.alloc' (.cells #[.int .i64 bk.agency, .slice q1 bk.seats.length m1, .slice q2 bk.off.length m2, .int .i64 bk.sent, .slice q4 bk.took.length m4, .int .i64 bk.cash] 36)).drew'
  refine ret_struct3 (k := 6) rfl siBook rfl ((b6.1.alloc _).step (.drew _)) rfl rfl ?_
  rw [HBK.out.1, HBK.out.2]
  refine ⟨_, _, rfl, (AV.keep (hX.keeps.mono fun j _ hj => ?_) HV.out.1).weak fun j _ hj => ?_, (HV.out.2.keep (hX.keeps.mono fun j _ hj => ?_)).weak fun j _ hj => ?_, StepX.fresh (StepX.fresh HS.out HS1.out.1 (fun j hj => by omega)) hX (fun j hj => by omega)⟩
  · unfold Old; omega
  · unfold Old at *; omega
  · unfold Old; omega
  · unfold Old at *; omega
end Go.Proofs.Ytbgfmikbhiblgaa
/- Walks: whether numbers are seats; what a gift asks of them. -/
namespace Go.Proofs.Ytbgfmikbhiblgaa
set_option linter.unusedSimpArgs false
set_option linter.unusedVariables false
open Go.RowKit Go.BT

def seatsB (h : House) (l : List Int) : Bool := decide (0 < l.length) && (l.all fun n => withinB n 0 (sizeL h.sectors - 1)) && risesB l
set_option maxHeartbeats 1000000 in
theorem seats_any (S T : Nat → Prop) (h : House) (v u : Value) (l : List Int) (w : World) (hv : AV S w v h) (hu : SL T w u l) (hok : valid h = true) :
    Calls Try.prog 99 #[v, u] w fun e w' => e = .returned (.bool (seatsB h l)) ∧ Step w w' := by
  obtain ⟨cs, rfl, hr⟩ := hv
  have hr0 := hr
  obtain ⟨c0, c1, c2, c3, c4, rfl, h0, h1, h2, h3, h4⟩ := hr
  have hS : Step w (w.alloc (.cells #[c0, c1, c2, c3, c4] 43)) := Step.alloc _ _
  have HS := Lib.hid hS
  have HR := Lib.hid (Rep.keep (.of_step hS) hr0)
  have HU := Lib.hid (hu.keep (.of_step hS))
  obtain ⟨p0, k0, rfl⟩ := h0.form
  obtain ⟨p1, k1, rfl⟩ := h1.form
  obtain ⟨p2, k2, rfl⟩ := h2.form
  obtain ⟨p3, k3, rfl⟩ := h3.form
  obtain ⟨p4, k4, rfl⟩ := h4.form
  obtain ⟨pu, cu, rfl⟩ := hu.form
  have hbd := bounds_valid hok
  have hs0 := hbd.2.2.2.2.2.2.1
  have hs1 := hbd.2.2.2.2.2.2.2.1
  have HOK := Lib.hid hok
  clear hS hr0 hu h0 h1 h2 h3 h4 hbd hok
  by_cases hl : 0 < l.length
  rotate_left
  · have HF := Lib.hid (show seatsB h l = false by simp [seatsB, hl])
    have hd : decide (0 < l.length) = false := by simpa using hl
    clear hl
    go_enter Try.func99, Try.ntmps99
    go_wp2
    go_ret
    exact ⟨by rw [HF.out]; rfl, HS.out⟩
  have hd : decide (0 < l.length) = true := by simpa using hl
  have HL := Lib.hid hl
  clear hl
  go_enter Try.func99, Try.ntmps99
  go_wp2_with fail
  refine (size_any S h _ _ ⟨_, rfl, HR.out⟩ (okSec_valid HOK.out)).mono ?_
  rintro e w1 ⟨rfl, hS1⟩
  have HT := Lib.hid hS1
  clear hS1
  go_wp2_with fail
  refine (every_any T l _ _ _ w1 (HU.out.keep (.of_step HT.out))).mono ?_
  rintro e w2 ⟨rfl, hS2⟩
  have HT2 := Lib.hid (HT.out.trans hS2)
  clear hS2
  cases q : (l.all fun n => withinB n 0 (sizeL h.sectors - 1)) with
  | false =>
    have HF := Lib.hid (show seatsB h l = false by simp [seatsB, q])
    clear q
    go_wp2
    go_ret
    exact ⟨by rw [HF.out]; rfl, HS.out.trans HT2.out⟩
  | true =>
    have HF := Lib.hid (show seatsB h l = risesB l by simp [seatsB, q, HL.out])
    clear q
    go_wp2_with fail
    refine (rises_any T l _ w2 (HU.out.keep (.of_step HT2.out))).mono ?_
    rintro e w3 ⟨rfl, hS3⟩
    have HT3 := Lib.hid (HT2.out.trans hS3)
    clear hS3
    go_wp2
    go_ret
    exact ⟨by rw [HF.out]; rfl, HS.out.trans HT3.out⟩

section
variable {base : Nat} {w : World} {g : Nat} {h : House} {b : Book} {c0 c1 c2 c3 c4 vs vo vt : Value} {xs : List Value}
set_option maxHeartbeats 1000000 in
theorem give1_any (D : Desk base w g h b c0 c1 c2 c3 c4 vs vo vt xs) (i j : Nat) (hi : i < b.seats.length) (hj : j < b.seats[i].length) (a1 a2 : Nat) (h1 : w.cell? ⟨a1, 0, none⟩ = some (.pointer (some ⟨g, 0, none⟩))) (h2 : w.cell? ⟨a2, 0, none⟩ = some (.int .i64 i)) :
    Calls Try.prog 101 #[.int .i64 j, .pointer (some ⟨a1, 0, none⟩), .pointer (some ⟨a2, 0, none⟩)] w fun e w' => e = .returned (.bool (decide (seatAt b i j ≠ -1))) ∧ Step w w' := by
  obtain ⟨_, _, f6, _⟩ := cells11 D.bx
  obtain ⟨go, co, gi, ci, rfl, _, hc, hcj, _, _, _⟩ := D.seat_at hi (by omega)
  have hse : seatAt b i j = b.seats[i][j] := by simp [seatAt, List.getD_eq_getElem?_getD, hi, hj]
  rw [hse]
  have hcj := hcj j hj
  have HC := Lib.hid (And.intro f6 (And.intro hc (And.intro hcj (And.intro h1 h2))))
  have hx : (0 : Int) ≤ (i : Int) ∧ (i : Int) < (b.seats.length : Int) := by omega
  have hy : (0 : Int) ≤ (j : Int) ∧ (j : Int) < (b.seats[i].length : Int) := by omega
  clear D f6 hc hcj h1 h2 hse
  go_enter Try.func101, Try.ntmps101
  go_upto_region 1 with (fail)
  refine wp_region_seq (kdOf [] []) [0, 1, 3, 7, 15, 0, 63, 127, 0, 511, 1023, 2047, 4095] [0, 1, 2, 3, 4, 5, 6, 7, 8, 9, 10, 11, 12] [] (by kernel_rfl) (by kernel_rfl) (fun i T z hi hk => by simp [kdOf] at hk <;> (try (split at hk <;> cases hk))) ?_
  intro Wx hWx
  have HT := Lib.hid hWx
  clear hWx
  have y0 := HT.out.keeps.cell id HC.out.1
  have y1 := HT.out.keeps.cell id HC.out.2.1
  have y2 := HT.out.keeps.cell id HC.out.2.2.1
  have y3 := HT.out.keeps.cell id HC.out.2.2.2.1
  have y4 := HT.out.keeps.cell id HC.out.2.2.2.2
  by_cases q : b.seats[i][j] = -1
  · have hd : (b.seats[i][j] != -1) = false := by simp [q]
    have HF := Lib.hid (show decide (b.seats[i][j] ≠ -1) = false by simp [q])
    clear q
    repeat (first | (refine run_off rfl rfl (by rfl) ?_; (try simp only [Act.put, List.setIfInBounds_toArray, List.set_cons_zero, List.set_cons_succ])) | (refine run_chain_off rfl rfl (by rfl) (K0_mono _) ?_; (try simp only [Act.put, List.setIfInBounds_toArray, List.set_cons_zero, List.set_cons_succ])) | ((refine run_want rfl rfl (by rfl) ⟨?_, fun W hW => ?_, ?_⟩; rotate_left; (· (have d0 := hW.keeps.cell id y0; have d1 := hW.keeps.cell id y1; have d2 := hW.keeps.cell id y2; have d3 := hW.keeps.cell id y3; have d4 := hW.keeps.cell id y4; go_simp; (try with_reducible rfl)))); (try simp only [Act.put, List.setIfInBounds_toArray, List.set_cons_zero, List.set_cons_succ])))
    refine run_end (L := []) rfl (fun W6 hW6 => ?_)
    have HT6 := Lib.hid (HT.out.trans hW6)
    clear hW6 HT
    have HT := HT6
    clear HT6
    go_wp2
    go_ret
    exact ⟨by rw [HF.out]; rfl, HT.out⟩
  · have hd : (b.seats[i][j] != -1) = true := by simp [q]
    have HF := Lib.hid (show decide (b.seats[i][j] ≠ -1) = true by simp [q])
    clear q
    repeat (first | (refine run_off rfl rfl (by rfl) ?_; (try simp only [Act.put, List.setIfInBounds_toArray, List.set_cons_zero, List.set_cons_succ])) | (refine run_chain_off rfl rfl (by rfl) (K0_mono _) ?_; (try simp only [Act.put, List.setIfInBounds_toArray, List.set_cons_zero, List.set_cons_succ])) | ((refine run_want rfl rfl (by rfl) ⟨?_, fun W hW => ?_, ?_⟩; rotate_left; (· (have d0 := hW.keeps.cell id y0; have d1 := hW.keeps.cell id y1; have d2 := hW.keeps.cell id y2; have d3 := hW.keeps.cell id y3; have d4 := hW.keeps.cell id y4; go_simp; (try with_reducible rfl)))); (try simp only [Act.put, List.setIfInBounds_toArray, List.set_cons_zero, List.set_cons_succ])))
    refine run_end (L := []) rfl (fun W6 hW6 => ?_)
    have HT6 := Lib.hid (HT.out.trans hW6)
    clear hW6 HT
    have HT := HT6
    clear HT6
    go_wp2
    go_ret
    exact ⟨by rw [HF.out]; rfl, HT.out⟩
set_option maxHeartbeats 1000000 in
theorem give2_any (D : Desk base w g h b c0 c1 c2 c3 c4 vs vo vt xs) (i j : Nat) (hi : i < b.seats.length) (hj : j < b.seats[i].length) (a1 a2 : Nat) (h1 : w.cell? ⟨a1, 0, none⟩ = some (.pointer (some ⟨g, 0, none⟩))) (h2 : w.cell? ⟨a2, 0, none⟩ = some (.int .i64 i)) :
    Calls Try.prog 102 #[.int .i64 j, .pointer (some ⟨a1, 0, none⟩), .pointer (some ⟨a2, 0, none⟩)] w fun e w' => e = .returned (.bool (!decide (0 < seatAt b i j))) ∧ Step w w' := by
  have hse : seatAt b i j = b.seats[i][j] := by simp [seatAt, List.getD_eq_getElem?_getD, hi, hj]
  rw [hse]
  have hcall := Lib.hid (sold_any D i j hi hj)
  clear D hse
  go_enter Try.func102, Try.ntmps102
  go_wp2_with fail
  refine hcall.out.mono ?_
  rintro e w1 ⟨rfl, hS⟩
  have HS := Lib.hid hS
  clear hS hcall
  go_wp2
  go_ret
  exact ⟨rfl, HS.out⟩
end
end Go.Proofs.Ytbgfmikbhiblgaa
/- Walks: a desk gives seats. -/
namespace Go.Proofs.Ytbgfmikbhiblgaa
set_option linter.unusedSimpArgs false
set_option linter.unusedVariables false
open Go.RowKit Go.BT

def giveE (h : House) (b : Book) (t s : Int) (l : List Int) : Int := if withinB t 0 (agN h - 1) = false then 2 else if t = b.agency then 2 else if withinB s 0 (h.dates.length - 1) = false then 2 else if seatsB h l = false then 2 else if offAt b s = true then 8 else
  if (l.all fun j => decide (seatAt b s j ≠ -1)) = false then 7 else if (l.all fun j => !decide (0 < seatAt b s j)) = false then 6 else if 1000 ≤ b.sent then 3 else 0
def giveTo (b : Book) (i : Nat) (l : List Int) : Book := l.foldl (fun b j => putSeat b i j.toNat (-1)) b
def giveP (b : Book) (t s : Int) (l : List Int) : Book × BT.Message := ({ giveTo b s.toNat l with sent := b.sent + 1 }, { frm := b.agency, dst := t, number := b.sent + 1, shw := s, seats := l })
def giveD (h : House) (b : Book) (t s : Int) (l : List Int) : Except Int (Book × BT.Message) := if giveE h b t s l = 0 then .ok (giveP b t s l) else .error (giveE h b t s l)
theorem giveD_no {h : House} {b : Book} {t s c : Int} {l : List Int} (hc : giveE h b t s l = c) (h0 : c ≠ 0) : giveD h b t s l = .error c := by simp [giveD, hc, h0]
def GiveEnds (base g : Nat) (h : House) (r : Except Int (Book × BT.Message)) (e : Ending) (w w' : World) : Prop := match r with
  | .ok (b', m) => ∃ v', e = .returned v' ∧ DeskE base w' g h b' ∧ AV (fun j => j < w.heap.size) w' v' m ∧ StepX (fun j => base ≤ j) w w'
  | .error c => e = .panicked (refusal c) ∧ StepX (fun j => base ≤ j) w w'
theorem GiveEnds.no {base g : Nat} {h : House} {r : Except Int (Book × BT.Message)} {w w' : World} {c : Int} (hr : r = .error c) (hS : Step w w') : GiveEnds base g h r (.panicked (refusal c)) w w' := by
  subst hr; exact ⟨rfl, .of hS⟩
theorem seats_nat {h : House} {l : List Int} (hs : seatsB h l = true) {k : Nat} (hk : k < l.length) : ∃ j : Nat, l[k] = j ∧ (j : Int) < sizeL h.sectors := by
  simp only [seatsB, Bool.and_eq_true] at hs
  have := List.all_eq_true.1 hs.1.2 _ (List.getElem_mem hk)
  simp [withinB] at this
  exact ⟨l[k].toNat, by omega, by omega⟩
theorem like_give (b : Book) (i : Nat) : ∀ l : List Int, Like b (giveTo b i l) 0 := by
  intro l
  unfold giveTo
  induction l generalizing b with
  | nil => exact Like.refl b
  | cons j l ih => exact ((like_put b i j.toNat (-1)).trans (ih _)).mono (by omega)
theorem giveTo_snoc (b : Book) (i : Nat) (l : List Int) (j : Int) : giveTo b i (l ++ [j]) = putSeat (giveTo b i l) i j.toNat (-1) := by simp [giveTo]
theorem siMessage : SI Try.prog 74 5 := ⟨⟨_, Try.underlying74⟩, by kernel_rfl⟩

/-- A row of five cells, written anew. -/
theorem set5 {w : World} {g : Nat} {a0 a1 a2 a3 a4 : Value} {T : TypeId} (h : Bx w g [a0, a1, a2, a3, a4] T) (c0 c1 c2 c3 c4 : Value) :
    Bx (((((w.setCell ⟨g, 0, none⟩ c0).setCell ⟨g, 1, none⟩ c1).setCell ⟨g, 2, none⟩ c2).setCell ⟨g, 3, none⟩ c3).setCell ⟨g, 4, none⟩ c4) g [c0, c1, c2, c3, c4] T ∧
    StepX (fun j => j = g) w (((((w.setCell ⟨g, 0, none⟩ c0).setCell ⟨g, 1, none⟩ c1).setCell ⟨g, 2, none⟩ c2).setCell ⟨g, 3, none⟩ c3).setCell ⟨g, 4, none⟩ c4) :=
  ⟨((((h.setCell 0 c0).setCell 1 c1).setCell 2 c2).setCell 3 c3).setCell 4 c4,
   (((((StepX.refl _ w).set1 0 c0).set1 1 c1).set1 2 c2).set1 3 c3).set1 4 c4⟩
/-- A desk abides what is written into a variable of another make. -/
theorem Desk.aside {base : Nat} {w w' : World} {g : Nat} {h : House} {b : Book} {c0 c1 c2 c3 c4 vs vo vt : Value} {xs : List Value} {k : Nat} {cs : List Value} {T : TypeId} (D : Desk base w g h b c0 c1 c2 c3 c4 vs vo vt xs) (hw : StepX (fun j => j = k) w w') (hb : Bx w k cs T) (hk : base ≤ k)
    (hT : T ≠ 3 ∧ T ≠ 23 ∧ T ≠ 4 ∧ T ≠ 124 ∧ T ≠ 155) : Desk base w' g h b c0 c1 c2 c3 c4 vs vo vt xs := by
  have hg0 : g ≠ k := fun e => by subst e; have h1 := D.bx; unfold Bx at h1 hb; rw [h1] at hb; simp at hb; exact hT.2.2.2.2 hb.2.symm
  have hg : w.grownBy w' (some k) := ⟨hw.os, hw.tape, hw.output, hw.size, fun j hj hn => hw.block j hj fun e => hn (by rw [e])⟩
  refine ⟨D.bx.keep hw.keeps hg0, D.gb, Rep.keep (hw.keeps.mono fun j _ hj => by omega) D.house, D.outer.kept hg (.inr (apart_bx hb D.outer hT.2.1)), fun i hi hx => (D.row i hi hx).kept hg (.inr (apart_bx hb (D.row i hi hx) hT.1)), D.off.kept hg (.inr (apart_bx hb D.off hT.2.2.1)), ?_, D.apart⟩
  obtain ⟨ts, ht, _⟩ := D.took
  exact D.took.keptF fun q hq => hw.block q (D.took.lt q hq).2 fun e => apart_bx hb ht hT.2.2.2.1 (e ▸ hq)
def GiveRel (base : Nat) (w : World) (g : Nat) (h : House) (bk : Book) (i : Nat) (c0 c1 c2 c3 c4 vs vo vt : Value) (xs : List Value) (wr : World) : Prop :=
  Desk base wr g h bk c0 c1 c2 c3 c4 vs vo vt xs ∧ Bx wr w.heap.size [.pointer (some ⟨g, 0, none⟩)] 117 ∧ Bx wr (w.heap.size + 1) [.int .i64 i] 3 ∧ Bx wr (w.heap.size + 2) [.int .i64 0, .int .i64 0, .int .i64 0, .int .i64 0, .slice none 0 0] 74 ∧ StepX (fun j => base ≤ j) w wr

section
variable {base : Nat} {w : World} {g : Nat} {h : House} {b : Book} {c0 c1 c2 c3 c4 vs vo vt : Value} {xs : List Value}
set_option maxRecDepth 100000 in
set_option maxHeartbeats 8000000 in
theorem give_any (D : Desk base w g h b c0 c1 c2 c3 c4 vs vo vt xs) (hO : OkDesk h b) (t s : Int) (l : List Int) (u : Value) (hu : SL (fun j => base ≤ j) w u l) (hl : l.length ≤ 1000000) :
    Calls Try.prog 72 #[.pointer (some ⟨g, 0, none⟩), .int .i64 t, .int .i64 s, u] w (fun e w' => GiveEnds base g h (giveD h b t s l) e w w') := by
  obtain ⟨pu, cu, bu, ou, rfl, _, _, hpu, hcu, hbu⟩ := hu.ints
  have hmf : ∀ (fn : Fn) (first cap : Array Value) (w : World), (Instr.makeFunc fn first cap).run Try.prog w = .ok (.func fn first cap) w := fun _ _ _ _ => rfl
  obtain ⟨W3, hW3⟩ : ∃ W3, W3 = ((w.alloc (.cells #[.pointer (some ⟨g, 0, none⟩)] 117)).alloc (.cells #[.int .i64 s] 3)).alloc (.cells #[.int .i64 0, .int .i64 0, .int .i64 0, .int .i64 0, .slice none 0 0] 74) := ⟨_, rfl⟩
  have hS : Step w W3 := by subst hW3; exact (by repeat (first | (with_reducible assumption) | (with_reducible exact Step.refl _) | (with_reducible apply Step.s_alloc) | (with_reducible apply Step.s_drew) | (with_reducible apply Step.s_drewN) | (with_reducible refine Step.trans ?_ (by with_reducible assumption))))
  have hb0 : Bx W3 w.heap.size [.pointer (some ⟨g, 0, none⟩)] 117 := by subst hW3; exact ((Bx.new _ [_] _).alloc _).alloc _
  have hb1 : Bx W3 (w.heap.size + 1) [.int .i64 s] 3 := by subst hW3; exact (Bx.new' _ [_] _ _ (by simp)).alloc _
  have hb2 : Bx W3 (w.heap.size + 2) [.int .i64 0, .int .i64 0, .int .i64 0, .int .i64 0, .slice none 0 0] 74 := by subst hW3; exact Bx.new' _ [_, _, _, _, _] _ _ (by simp)
  have hz3 : W3.heap.size = w.heap.size + 3 := by subst hW3; simp
  have HS := Lib.hid hS
  have HB0 := Lib.hid hb0
  have HB1 := Lib.hid hb1
  have HB2 := Lib.hid hb2
  have HZ3 := Lib.hid hz3
  have HD := Lib.hid (D.step hS)
  have HD0 := Lib.hid D
  have HO := Lib.hid hO
  have HU := Lib.hid (And.intro hu (And.intro hpu (And.intro hcu hbu)))
  have HW := Lib.hid hW3
  have hbv := bounds_valid hO.1
  have hwr : IntKind.i64.wrap ((agN h : Int) - 1) = (agN h : Int) - 1 := by rw [IntKind.wrap_i64]; omega
  have HT := Lib.hid (Step.refl W3)
  have hag0 := agencies_any (fun j => base ≤ j) h (.agg #[c0, c1, c2, c3, c4]) W3 ⟨_, rfl, HD.out.house⟩ (by omega)
  rw [agN_eq] at hag0
  have hcall := Lib.hid hag0
  clear hag0
  obtain ⟨⟨f0, f1, f2, f3, f4⟩, f5, _⟩ := cells11 HD.out.bx
  clear hS hb0 hb1 hb2 hz3 D hO hu hpu hcu hbu hW3 hbv
  obtain ⟨p0, k0, rfl⟩ := (rep5 HD.out.house).1.form
  obtain ⟨p1, k1, rfl⟩ := (rep5 HD.out.house).2.1.form
  obtain ⟨p2, k2, rfl⟩ := (rep5 HD.out.house).2.2.1.form
  obtain ⟨p3, k3, rfl⟩ := (rep5 HD.out.house).2.2.2.1.form
  obtain ⟨p4, k4, rfl⟩ := (rep5 HD.out.house).2.2.2.2.form
  go_enter Try.func72, Try.ntmps72
  go_upto_region 1 with (fail)
  rw [← HW.out]
  clear HW
  have y0 := HB0.out.cell 0
  simp only [List.getElem?_cons_zero] at y0
  go_wp2_with fail
  refine hcall.out.mono ?_
  rintro e wn ⟨rfl, hSn⟩
  have HT := Lib.hid hSn
  clear hSn hcall f0 f1 f2 f3 f4 f5 y0
  go_wp2_with fail
  refine (within_st _ _ _ _).mono ?_
  rintro e wn ⟨rfl, hSn⟩
  have HTi := Lib.hid (HT.out.trans hSn)
  clear hSn HT
  have HT := HTi
  clear HTi
  cases q1 : withinB t 0 (agN h - 1) with
  | false =>
    have HF := Lib.hid (show giveE h b t s l = 2 by simp [giveE, q1])
    clear q1
    go_wp2_with fail
    refine (ask_no _ _).mono ?_
    rintro e wn ⟨rfl, hSn⟩
    have HTi := Lib.hid (HT.out.trans hSn)
    clear hSn HT
    have HT := HTi
    clear HTi
    exact ⟨rfl, .no (giveD_no HF.out (by simp)) (HS.out.trans HT.out)⟩
  | true =>
  have Q1 := Lib.hid q1
  clear q1
  obtain ⟨_, f5, _⟩ := cells11 (HD.out.step HT.out).bx
  have y0 := (HB0.out.step HT.out).cell 0
  simp only [List.getElem?_cons_zero] at y0
  by_cases q2 : t = b.agency
  · have hd : (t != b.agency) = false := by simp [q2]
    have HF := Lib.hid (show giveE h b t s l = 2 by simp [giveE, Q1.out, q2])
    clear q2
    go_wp2_with fail
    refine (ask_no _ _).mono ?_
    rintro e wn ⟨rfl, hSn⟩
    have HTi := Lib.hid (HT.out.trans hSn)
    clear hSn HT
    have HT := HTi
    clear HTi
    exact ⟨rfl, .no (giveD_no HF.out (by simp)) (HS.out.trans HT.out)⟩
  have hd : (t != b.agency) = true := by simp [q2]
  have Q2 := Lib.hid q2
  clear q2
  go_wp2_with fail
  refine (ask_yes _ _).mono ?_
  rintro e wn ⟨rfl, hSn⟩
  have HTi := Lib.hid (HT.out.trans hSn)
  clear hSn HT
  have HT := HTi
  clear HTi
  clear hd f5 y0
  have y0 := (HB0.out.step HT.out).cell 0
  have y1 := (HB1.out.step HT.out).cell 0
  simp only [List.getElem?_cons_zero] at y0 y1
  cases q3 : withinB s 0 (h.dates.length - 1) with
  | false =>
    have HF := Lib.hid (show giveE h b t s l = 2 by simp [giveE, Q1.out, Q2.out, q3])
    have hcall := Lib.hid (show_no (HD.out.step HT.out) s q3)
    go_wp2_with fail
    refine hcall.out.mono ?_
    clear hcall
    rintro e wn ⟨rfl, hSn⟩
    have HTi := Lib.hid (HT.out.trans hSn)
    clear hSn HT
    have HT := HTi
    clear HTi
    exact ⟨rfl, .no (giveD_no HF.out (by simp)) (HS.out.trans HT.out)⟩
  | true =>
  have hcall := Lib.hid (show_yes (HD.out.step HT.out) s q3)
  go_wp2_with fail
  refine hcall.out.mono ?_
  clear hcall
  rintro e wn ⟨rfl, hSn⟩
  have HTi := Lib.hid (HT.out.trans hSn)
  clear hSn HT
  have HT := HTi
  clear HTi
  have Q3 := Lib.hid q3
  clear q3 y0 y1
  have y0 := (HB0.out.step HT.out).cell 0
  simp only [List.getElem?_cons_zero] at y0
  obtain ⟨⟨f0, f1, f2, f3, f4⟩, f5, _⟩ := cells11 (HD.out.step HT.out).bx
  have hcall := Lib.hid (seats_any (fun j => base ≤ j) (fun j => base ≤ j) h (.agg #[.slice p0 h.sectors.length k0, .slice p1 h.prices.length k1, .slice p2 h.dates.length k2, .slice p3 h.frm.length k3, .slice p4 h.holds.length k4]) _ l wn ⟨_, rfl, (HD.out.step HT.out).house⟩ (HU.out.1.keep (.of_step (HS.out.trans HT.out))) HO.out.1)
  go_wp2_with fail
  refine hcall.out.mono ?_
  clear hcall
  rintro e wn ⟨rfl, hSn⟩
  have HTi := Lib.hid (HT.out.trans hSn)
  clear hSn HT
  have HT := HTi
  clear HTi
  clear f0 f1 f2 f3 f4 f5 y0
  cases q4 : seatsB h l with
  | false =>
    have HF := Lib.hid (show giveE h b t s l = 2 by simp [giveE, Q1.out, Q2.out, Q3.out, q4])
    clear q4
    go_wp2_with fail
    refine (ask_no _ _).mono ?_
    rintro e wn ⟨rfl, hSn⟩
    have HTi := Lib.hid (HT.out.trans hSn)
    clear hSn HT
    have HT := HTi
    clear HTi
    exact ⟨rfl, .no (giveD_no HF.out (by simp)) (HS.out.trans HT.out)⟩
  | true =>
  have Q4 := Lib.hid q4
  clear q4
  go_wp2_with fail
  refine (ask_yes _ _).mono ?_
  rintro e wn ⟨rfl, hSn⟩
  have HTi := Lib.hid (HT.out.trans hSn)
  clear hSn HT
  have HT := HTi
  clear HTi
  obtain ⟨i, rfl, hi0, hi1⟩ := within_nat Q3.out (by omega)
  have hi : i < h.dates.length := by omega
  obtain ⟨z, hz⟩ : ∃ z : Nat, sizeL h.sectors = z := ⟨(sizeL h.sectors).toNat, by have := size_pos HO.out.1; omega⟩
  have hz0 : 0 < z := by have := size_pos HO.out.1; omega
  have hio : i < b.off.length := by have := HO.out.2.1; omega
  have his : i < b.seats.length := by have := HO.out.2.2.1; omega
  have hrl : ∀ b', OkDesk h b' → ∀ s (hs : s < b'.seats.length), b'.seats[s].length = z := fun b' hb s hs => by have := hb.2.2.2.1 s hs; omega
  have HRL := Lib.hid hrl
  have HZ := Lib.hid hz
  obtain ⟨⟨gs, cs, rfl⟩, hforms⟩ := HD0.out.forms HO.out hz hz0
  obtain ⟨hxi, gi, ci, hxv⟩ := hforms i hi
  have HXV := Lib.hid hxv
  obtain ⟨go, co, rfl, hoc, _, _⟩ := HD.out.off_at hio
  have hx1 : (0 : Int) ≤ (i : Int) ∧ (i : Int) < (b.off.length : Int) := by omega
  have hx2 : (0 : Int) ≤ (i : Int) ∧ (i : Int) < (h.dates.length : Int) := by omega
  have hoff : offAt b i = b.off[i] := by simp [offAt, List.getD_eq_getElem?_getD, hio]
  have HOFF := Lib.hid hoff
  have HOC := Lib.hid (hoc i hio)
  clear hrl hz hforms hxv hoc hi0 hi1 hoff
  go_upto_region 4 with (fail)
  refine wp_region_seq (kdOf [] []) [0, 1, 3, 7, 15, 0, 63, 127, 255, 511] [0, 1, 2, 3, 4, 5, 6, 7, 8] [9] (by kernel_rfl) (by kernel_rfl) (fun i T z hi hk => by simp [kdOf] at hk <;> (try (split at hk <;> cases hk))) ?_
  intro Wx hWx
  have HTi := Lib.hid (HT.out.trans hWx)
  clear hWx HT
  have HT := HTi
  clear HTi
  have y0 := (HB0.out.step HT.out).cell 0
  have y1 := (HB1.out.step HT.out).cell 0
  simp only [List.getElem?_cons_zero] at y0 y1
  obtain ⟨_, f5, f6, f7, f8, _, _⟩ := cells11 (HD.out.step HT.out).bx
  have m0 := HT.out.keeps.cell id HOC.out
  cases q5 : b.off[i] with
  | true =>
    have HF := Lib.hid (show giveE h b t i l = 8 by simp [giveE, Q1.out, Q2.out, Q3.out, Q4.out, HOFF.out, q5])
    rw [q5] at m0
    clear q5
    repeat (first | (refine run_off rfl rfl (by rfl) ?_; (try simp only [Act.put, List.setIfInBounds_toArray, List.set_cons_zero, List.set_cons_succ])) | (refine run_chain_off rfl rfl (by rfl) (K0_mono _) ?_; (try simp only [Act.put, List.setIfInBounds_toArray, List.set_cons_zero, List.set_cons_succ])) | ((refine run_want rfl rfl (by rfl) ⟨?_, fun W hW => ?_, ?_⟩; rotate_left; (· (have d0 := hW.keeps.cell id y0; have d1 := hW.keeps.cell id y1; have d2 := hW.keeps.cell id f7; have d3 := hW.keeps.cell id m0; go_simp; (try with_reducible rfl)))); (try simp only [Act.put, List.setIfInBounds_toArray, List.set_cons_zero, List.set_cons_succ])))
    refine run_end (L := [_]) rfl (fun W6 hW6 => ?_)
    have HT6 := Lib.hid (HT.out.trans hW6)
    clear hW6 HT
    have HT := HT6
    clear HT6
    go_wp2_with fail
    refine (ask_no _ _).mono ?_
    rintro e wn ⟨rfl, hSn⟩
    have HTi := Lib.hid (HT.out.trans hSn)
    clear hSn HT
    have HT := HTi
    clear HTi
    exact ⟨rfl, .no (giveD_no HF.out (by simp)) (HS.out.trans HT.out)⟩
  | false =>
  rw [q5] at m0
  have Q5 := Lib.hid (HOFF.out.trans q5)
  clear q5
  repeat (first | (refine run_off rfl rfl (by rfl) ?_; (try simp only [Act.put, List.setIfInBounds_toArray, List.set_cons_zero, List.set_cons_succ])) | (refine run_chain_off rfl rfl (by rfl) (K0_mono _) ?_; (try simp only [Act.put, List.setIfInBounds_toArray, List.set_cons_zero, List.set_cons_succ])) | ((refine run_want rfl rfl (by rfl) ⟨?_, fun W hW => ?_, ?_⟩; rotate_left; (· (have d0 := hW.keeps.cell id y0; have d1 := hW.keeps.cell id y1; have d2 := hW.keeps.cell id f7; have d3 := hW.keeps.cell id m0; go_simp; (try with_reducible rfl)))); (try simp only [Act.put, List.setIfInBounds_toArray, List.set_cons_zero, List.set_cons_succ])))
  refine run_end (L := [_]) rfl (fun W6 hW6 => ?_)
  have HT6 := Lib.hid (HT.out.trans hW6)
  clear hW6 HT
  have HT := HT6
  clear HT6
  go_wp2_with fail
  refine (ask_yes _ _).mono ?_
  rintro e wn ⟨rfl, hSn⟩
  have HTi := Lib.hid (HT.out.trans hSn)
  clear hSn HT
  have HT := HTi
  clear HTi
  clear y0 y1 f5 f6 f7 f8 m0
  have hall := Lib.hid (all_int (fun j => base ≤ j) l (.slice pu l.length cu) wn 101 #[.pointer (some ⟨w.heap.size, 0, none⟩), .pointer (some ⟨w.heap.size + 1, 0, none⟩)]
    (Go.Proofs.enters_of Try.func101 (by kernel_rfl) rfl) (fun j => decide (seatAt b i j ≠ -1)) (fun _ W => Step wn W) (fun _ => False) (fun _ h => h.elim)
    (fun _ W hW => HU.out.1.keep (.of_step ((HS.out.trans HT.out).trans hW))) (fun _ _ _ h1 h2 => h1.trans h2) (Step.refl _) (fun q hq W uu hW _ hu => by
      subst hu
      obtain ⟨j, hj, hjz⟩ := seats_nat Q4.out hq
      rw [hj]
      have hD := (HD.out.step HT.out).step hW
      refine (give1_any hD i j his (by have := HRL.out _ HO.out i his; have := HZ.out; omega) w.heap.size (w.heap.size + 1) ((HB0.out.step (HT.out.trans hW)).cell 0) ((HB1.out.step (HT.out.trans hW)).cell 0)).mono ?_
      rintro e w' ⟨rfl, hS⟩
      exact ⟨rfl, hW.trans hS, hS⟩))
  go_wp2_with fail
  refine hall.out.mono ?_
  rintro e wm ⟨rfl, km, _, _, hSm⟩
  have HTm := Lib.hid (HT.out.trans hSm)
  clear hall hSm HT
  have HT := HTm
  clear HTm
  cases q6 : (l.all fun j => decide (seatAt b i j ≠ -1)) with
  | false =>
    have HF := Lib.hid (show giveE h b t i l = 7 by simp only [giveE, Q1.out, Q2.out, Q3.out, Q4.out, Q5.out, q6]; simp)
    clear q6
    go_wp2_with fail
    refine (ask_no _ _).mono ?_
    rintro e wn ⟨rfl, hSn⟩
    have HTi := Lib.hid (HT.out.trans hSn)
    clear hSn HT
    have HT := HTi
    clear HTi
    exact ⟨rfl, .no (giveD_no HF.out (by simp)) (HS.out.trans HT.out)⟩
  | true =>
  have Q6 := Lib.hid q6
  clear q6
  go_wp2_with fail
  refine (ask_yes _ _).mono ?_
  rintro e wn ⟨rfl, hSn⟩
  have HTi := Lib.hid (HT.out.trans hSn)
  clear hSn HT
  have HT := HTi
  clear HTi
  have hall := Lib.hid (all_int (fun j => base ≤ j) l (.slice pu l.length cu) wn 102 #[.pointer (some ⟨w.heap.size, 0, none⟩), .pointer (some ⟨w.heap.size + 1, 0, none⟩)]
    (Go.Proofs.enters_of Try.func102 (by kernel_rfl) rfl) (fun j => !decide (0 < seatAt b i j)) (fun _ W => Step wn W) (fun _ => False) (fun _ h => h.elim)
    (fun _ W hW => HU.out.1.keep (.of_step ((HS.out.trans HT.out).trans hW))) (fun _ _ _ h1 h2 => h1.trans h2) (Step.refl _) (fun q hq W uu hW _ hu => by
      subst hu
      obtain ⟨j, hj, hjz⟩ := seats_nat Q4.out hq
      rw [hj]
      have hD := (HD.out.step HT.out).step hW
      refine (give2_any hD i j his (by have := HRL.out _ HO.out i his; have := HZ.out; omega) w.heap.size (w.heap.size + 1) ((HB0.out.step (HT.out.trans hW)).cell 0) ((HB1.out.step (HT.out.trans hW)).cell 0)).mono ?_
      rintro e w' ⟨rfl, hS⟩
      exact ⟨rfl, hW.trans hS, hS⟩))
  go_wp2_with fail
  refine hall.out.mono ?_
  rintro e wm ⟨rfl, km, _, _, hSm⟩
  have HTm := Lib.hid (HT.out.trans hSm)
  clear hall hSm HT
  have HT := HTm
  clear HTm
  cases q7 : (l.all fun j => !decide (0 < seatAt b i j)) with
  | false =>
    have HF := Lib.hid (show giveE h b t i l = 6 by simp only [giveE, Q1.out, Q2.out, Q3.out, Q4.out, Q5.out, Q6.out, q7]; simp)
    clear q7
    go_wp2_with fail
    refine (ask_no _ _).mono ?_
    rintro e wn ⟨rfl, hSn⟩
    have HTi := Lib.hid (HT.out.trans hSn)
    clear hSn HT
    have HT := HTi
    clear HTi
    exact ⟨rfl, .no (giveD_no HF.out (by simp)) (HS.out.trans HT.out)⟩
  | true =>
  have Q7 := Lib.hid q7
  clear q7
  go_wp2_with fail
  refine (ask_yes _ _).mono ?_
  rintro e wn ⟨rfl, hSn⟩
  have HTi := Lib.hid (HT.out.trans hSn)
  clear hSn HT
  have HT := HTi
  clear HTi
  have y0 := (HB0.out.step HT.out).cell 0
  have y1 := (HB1.out.step HT.out).cell 0
  simp only [List.getElem?_cons_zero] at y0 y1
  obtain ⟨_, f5, f6, f7, f8, _, _⟩ := cells11 (HD.out.step HT.out).bx
  by_cases q8 : b.sent < 1000
  rotate_left
  · have HF := Lib.hid (show giveE h b t i l = 3 by simp only [giveE, Q1.out, Q2.out, Q3.out, Q4.out, Q5.out, Q6.out, Q7.out]; simp; omega)
    have hd : decide (b.sent < 1000) = false := by simpa using q8
    clear q8
    go_wp2_with fail
    refine (ask_no _ _).mono ?_
    rintro e wn ⟨rfl, hSn⟩
    have HTi := Lib.hid (HT.out.trans hSn)
    clear hSn HT
    have HT := HTi
    clear HTi
    exact ⟨rfl, .no (giveD_no HF.out (by simp)) (HS.out.trans HT.out)⟩
  have HF := Lib.hid (show giveE h b t i l = 0 by simp only [giveE, Q1.out, Q2.out, Q3.out, Q4.out, Q5.out, Q6.out, Q7.out]; simp; omega)
  have hd : decide (b.sent < 1000) = true := by simpa using q8
  have Q8 := Lib.hid q8
  clear q8
  go_wp2_with fail
  refine (ask_yes _ _).mono ?_
  rintro e wn ⟨rfl, hSn⟩
  have HTi := Lib.hid (HT.out.trans hSn)
  clear hSn HT
  have HT := HTi
  clear HTi
  clear hd y0 y1 f5 f6 f7 f8
  go_wp2_with fail
  obtain ⟨_, _, _, _, hgiw⟩ := HD0.out.seat_c his hxi HXV.out (j := 0) (by rw [HRL.out _ HO.out]; exact hz0)
  have hstart : GiveRel base w g h (giveTo b i (l.take 0)) i (.slice p0 h.sectors.length k0) (.slice p1 h.prices.length k1) (.slice p2 h.dates.length k2) (.slice p3 h.frm.length k3) (.slice p4 h.holds.length k4) (.slice (some ⟨gs, 0, none⟩) h.dates.length cs) (.slice (some ⟨go, 0, none⟩) b.off.length co) vt xs wn :=
    ⟨HD.out.step HT.out, HB0.out.step HT.out, HB1.out.step HT.out, HB2.out.step HT.out, .of (HS.out.trans HT.out)⟩
  have HL := Lib.hid hl
  clear hl
  go_loopw [66] (fun idx wr => ∃ k : Nat, k ≤ l.length ∧ idx = .int .i64 k ∧ GiveRel base w g h (giveTo b i (l.take k)) i (.slice p0 h.sectors.length k0) (.slice p1 h.prices.length k1) (.slice p2 h.dates.length k2) (.slice p3 h.frm.length k3) (.slice p4 h.holds.length k4) (.slice (some ⟨gs, 0, none⟩) h.dates.length cs) (.slice (some ⟨go, 0, none⟩) b.off.length co) vt xs wr) (fun idx _ => l.length - (intOf idx).toNat)
  case atStart => exact ⟨0, Nat.zero_le _, rfl, hstart⟩
  case round =>
    clear hstart
    obtain ⟨k, hk, rfl, hDk, hb0, hb1, hb2, hX⟩ := hrel
    have hOk := (like_give b i (l.take k)).ok HO.out (by have := HO.out.2.2.2.2.2.2.1; omega)
    have HDK := Lib.hid hDk
    have HB := Lib.hid (And.intro hb0 (And.intro hb1 hb2))
    have HX := Lib.hid hX
    have HOK := Lib.hid hOk
    clear hDk hb0 hb1 hb2 hX hOk
    by_cases hlt : k < l.length
    · obtain ⟨j, hj, hjz⟩ := seats_nat Q4.out hlt
      obtain rfl := HU.out.2.1 (by omega)
      have hl0 := HX.out.keeps.cell (a := ⟨bu, ou + k, none⟩) (HU.out.2.2.2 (by omega)).2 (HU.out.2.2.1 k hlt)
      rw [hj] at hl0
      have HJ := Lib.hid hj
      have hisk : i < (giveTo b i (l.take k)).seats.length := by have := HOK.out.2.2.1; omega
      have hjk : j < (giveTo b i (l.take k)).seats[i].length := by rw [HRL.out _ HOK.out]; have := HZ.out; omega
      have hjz2 : j < z := by have := HZ.out; omega
      obtain ⟨m0, m1, z1, _, _⟩ := HDK.out.seat_c hisk hxi HXV.out hjk
      obtain ⟨_, _, f6, _⟩ := cells11 HDK.out.bx
      have y0 := HB.out.1.cell 0
      have y1 := HB.out.2.1.cell 0
      simp only [List.getElem?_cons_zero] at y0 y1
      have HM := Lib.hid (And.intro m0 (And.intro z1 (And.intro f6 (And.intro y0 y1))))
      have hx3 : (0 : Int) ≤ (k : Int) ∧ (k : Int) < (l.length : Int) := by omega
      have hx4 : (0 : Int) ≤ (j : Int) ∧ (j : Int) < (z : Int) := by omega
      have hgir : gi < wr.heap.size := by have := HX.out.size; omega
      clear hj m0 m1 z1 f6 y0 y1
      go_upto_region 11 with (fail)
      refine wp_region_seq (kdOf [] []) [0, 1, 3, 7, 15, 0, 63, 127, 0, 511, 1023] [0, 1, 2, 3, 4, 5, 6, 7, 8, 9] [10] (by kernel_rfl) (by kernel_rfl) (fun i T z hi hk => by simp [kdOf] at hk <;> (try (split at hk <;> cases hk))) ?_
      intro Wx hWx
      have HT := Lib.hid hWx
      clear hWx
      have m0 := HT.out.keeps.cell id HM.out.1
      have f6 := HT.out.keeps.cell id HM.out.2.2.1
      have y0 := HT.out.keeps.cell id HM.out.2.2.2.1
      have y1 := HT.out.keeps.cell id HM.out.2.2.2.2
      repeat (first | (refine run_off rfl rfl (by rfl) ?_; (try simp only [Act.put, List.setIfInBounds_toArray, List.set_cons_zero, List.set_cons_succ])) | (refine run_chain_off rfl rfl (by rfl) (K0_mono _) ?_; (try simp only [Act.put, List.setIfInBounds_toArray, List.set_cons_zero, List.set_cons_succ])) | ((refine run_want rfl rfl (by rfl) ⟨?_, fun W hW => ?_, ?_⟩; rotate_left; (· (have d0 := hW.keeps.cell id y0; have d1 := hW.keeps.cell id f6; have d2 := hW.keeps.cell id y1; have d3 := hW.keeps.cell id m0; go_simp; (try with_reducible rfl)))); (try simp only [Act.put, List.setIfInBounds_toArray, List.set_cons_zero, List.set_cons_succ])))
      refine run_end (L := [_]) rfl (fun W6 hW6 => ?_)
      have HT6 := Lib.hid (HT.out.trans hW6)
      clear hW6 HT
      have HT := HT6
      clear HT6
      have hD6 := HDK.out.step HT.out
      have z1 := (HT.out.cells.2 gi j hgir).trans HM.out.2.1
      obtain ⟨_, m1, _, _, _⟩ := hD6.seat_c hisk hxi HXV.out hjk
      have hset := hD6.setSeat (j := j) hisk hxi (by rw [HRL.out _ HOK.out]; exact HXV.out) (-1)
      have hb0 := (HB.out.1.step HT.out).setOther (b := gi) (o := j) (v := .int .i64 (-1)) (by omega)
      have hb1 := (HB.out.2.1.step HT.out).setOther (b := gi) (o := j) (v := .int .i64 (-1)) (by omega)
      have hb2 := (HB.out.2.2.step HT.out).setOther (b := gi) (o := j) (v := .int .i64 (-1)) (by omega)
      have hX7 := (HX.out.trans (.of HT.out)).setCell ⟨gi, j, none⟩ (.int .i64 (-1)) hset.2
      have H7 := Lib.hid (And.intro hset.1 (And.intro hb0 (And.intro hb1 (And.intro hb2 hX7))))
      have HN := Lib.hid (show giveTo b i (l.take (k + 1)) = putSeat (giveTo b i (l.take k)) i j (-1) by rw [List.take_succ_eq_append_getElem hlt, giveTo_snoc, HJ.out, Int.toNat_natCast])
      clear m0 f6 y0 y1 hl0 hD6 hset hb0 hb1 hb2 hX7
      go_wp2
      go_roundw
      case rel => exact ⟨k + 1, by omega, by go_num, by rw [HN.out]; exact H7.out⟩
      case measure => simp [intOf]; omega
    · have htk : giveTo b i (l.take k) = giveTo b i l := by rw [List.take_of_length_le (by omega)]
      have HTK := Lib.hid htk
      clear htk
      have y0 := HB.out.1.cell 0
      simp only [List.getElem?_cons_zero] at y0
      obtain ⟨_, f5, f6, f7, f8, _, _⟩ := cells11 HDK.out.bx
      have z8 := HDK.out.bx.frozen 8
      have hsent : (giveTo b i (l.take k)).sent = b.sent := (like_give b i (l.take k)).sent
      have hag : (giveTo b i (l.take k)).agency = b.agency := (like_give b i (l.take k)).agency
      have hs0 := HO.out.2.2.2.2.2.2.2.2.1
      have hs1 := Q8.out
      rw [hsent] at f8
      rw [hag] at f5
      go_upto_region 14 with (fail)
      have hb8 := HDK.out.bx.setCell 8 (.int .i64 (b.sent + 1))
      have hw8 := Wrote.setCell wr g 8 (.int .i64 (b.sent + 1))
      have hD8 := HDK.out.setBook hw8 { giveTo b i (l.take k) with sent := b.sent + 1 } rfl rfl rfl (by simpa using hb8)
      have hgl := HD0.out.lt
      have hX8 := HX.out.setCell ⟨g, 8, none⟩ (.int .i64 (b.sent + 1)) HDK.out.gb
      have h80 := HB.out.1.setOther (b := g) (o := 8) (v := .int .i64 (b.sent + 1)) (by omega)
      have h81 := HB.out.2.1.setOther (b := g) (o := 8) (v := .int .i64 (b.sent + 1)) (by omega)
      have h82 := HB.out.2.2.setOther (b := g) (o := 8) (v := .int .i64 (b.sent + 1)) (by omega)
      have hsl8 := HU.out.1.keep (w' := wr.setCell ⟨g, 8, none⟩ (.int .i64 (b.sent + 1))) hX8.keeps
      have HD8 := Lib.hid hD8
      have H8 := Lib.hid (And.intro h80 (And.intro h81 (And.intro h82 (And.intro hX8 hsl8))))
      have HAG := Lib.hid hag
      clear y0 f5 f6 f7 f8 z8 hb8 hw8 hD8 hX8 h80 h81 h82 hsl8 hsent hag hs0 hs1
      generalize wr.setCell ⟨g, 8, none⟩ (.int .i64 (b.sent + 1)) = w8 at *
      refine wp_region_seq (kdOf [13] []) [0, 1, 3, 7, 15, 0, 0, 64, 192, 448, 960, 0, 0, 4096, 16383, 32767] [0, 1, 2, 3, 4, 5, 6, 7, 8, 9, 10, 11, 12, 13, 14] [15] (by kernel_rfl) (by kernel_rfl) (fun i T z hi hk => by simp [kdOf] at hk <;> (try (split at hk <;> cases hk))) ?_
      intro Wx hWx
      have HT := Lib.hid hWx
      clear hWx
      have y0 := (H8.out.1.step HT.out).cell 0
      have y1 := (H8.out.2.1.step HT.out).cell 0
      simp only [List.getElem?_cons_zero] at y0 y1
      obtain ⟨_, f5, _, _, f8, _, _⟩ := cells11 (HD8.out.step HT.out).bx
      have f5 : Wx.cell? ⟨g, 5, none⟩ = some (.int .i64 b.agency) := by rw [f5]; simp only [HAG.out]
      have f8 : Wx.cell? ⟨g, 8, none⟩ = some (.int .i64 (b.sent + 1)) := f8
      repeat (first | (refine run_off rfl rfl (by rfl) ?_; (try simp only [Act.put, List.setIfInBounds_toArray, List.set_cons_zero, List.set_cons_succ])) | (refine run_chain_off rfl rfl (by rfl) (K0_mono _) ?_; (try simp only [Act.put, List.setIfInBounds_toArray, List.set_cons_zero, List.set_cons_succ])) | ((refine run_want rfl rfl (by rfl) ⟨?_, fun W hW => ?_, ?_⟩; rotate_left; (· (have d0 := hW.keeps.cell id y0; have d1 := hW.keeps.cell id y1; have d2 := hW.keeps.cell id f5; have d3 := hW.keeps.cell id f8; go_simp; (try with_reducible rfl)))); (try simp only [Act.put, List.setIfInBounds_toArray, List.set_cons_zero, List.set_cons_succ])))
      refine run_chain rfl rfl (by rfl) (fun Wi hWi K' hK => ?_)
      have HTi := Lib.hid (HT.out.trans hWi)
      have HZW := Lib.hid HTi.out.size
      clear hWi HT
      go_simp
      refine (clone_ints (fun j => base ≤ j) l _ Wi (H8.out.2.2.2.2.keep (.of_step HTi.out)) HL.out).mono ?_
      rintro e wn ⟨v', rfl, hv', hSn⟩
      have HT := Lib.hid (HTi.out.trans (StepX.of hSn))
      clear HTi
      obtain ⟨pv, cv, rfl, _, _⟩ := hv'.form
      have HV := Lib.hid hv'
      have HV0 := HZW
      have HT1 := HT
      have HWN : Hid (Step w8 wn) := HT1
      have HT := Lib.hid (Step.refl wn)
      refine hK _ _ (StepX.of hSn) ?_
      clear hSn
      (try simp only [Act.put, List.setIfInBounds_toArray, List.set_cons_zero, List.set_cons_succ])
      clear hv' y0 y1 f5 f8 HT1
      repeat (first | (refine run_off rfl rfl (by rfl) ?_; (try simp only [Act.put, List.setIfInBounds_toArray, List.set_cons_zero, List.set_cons_succ])) | (refine run_chain_off rfl rfl (by rfl) (K0_mono _) ?_; (try simp only [Act.put, List.setIfInBounds_toArray, List.set_cons_zero, List.set_cons_succ])) | ((refine run_want rfl rfl (by rfl) ⟨?_, fun W hW => ?_, ?_⟩; rotate_left; (· (skip; go_simp; (try with_reducible rfl)))); (try simp only [Act.put, List.setIfInBounds_toArray, List.set_cons_zero, List.set_cons_succ])))
      refine run_end (L := [_]) rfl (fun W6 hW6 => ?_)
      have HT6 := Lib.hid (HT.out.trans hW6)
      clear hW6 HT
      have HT := HT6
      clear HT6
      have hb2 := (H8.out.2.2.1.step HWN.out).step HT.out
      have n0 := hb2.cell 0
      have n1 := hb2.cell 1
      have n2 := hb2.cell 2
      have n3 := hb2.cell 3
      have n4 := hb2.cell 4
      have zn := hb2.frozen
      simp only [List.getElem?_cons_zero, List.getElem?_cons_succ] at n0 n1 n2 n3 n4
      have HB2' := Lib.hid hb2
      have HVS := Lib.hid (OwnL.step HV.out HT.out)
      clear hb2
      go_wp2
      clear n0 n1 n2 n3 n4 zn
      have b5 := set5 HB2'.out (.int .i64 b.agency) (.int .i64 t) (.int .i64 (b.sent + 1)) (.int .i64 i) (.slice pv l.length cv)
      have hgb := HD0.out.gb
      have hgl := HD0.out.lt
      have hres : giveD h b t i l = .ok ({ giveTo b i (l.take k) with sent := b.sent + 1 }, { frm := b.agency, dst := t, number := b.sent + 1, shw := i, seats := l }) := by
        unfold giveD giveP
        rw [if_pos HF.out, Int.toNat_natCast, HTK.out]
      refine ret_struct (k := 5) rfl siMessage rfl b5.1 rfl rfl ?_
      show GiveEnds _ _ _ (giveD h b t i l) _ _ _
      rw [hres]
      refine ⟨_, rfl, ?_, ⟨_, rfl, _, rfl, ?_⟩, ?_⟩
      · refine ⟨_, _, _, _, _, _, _, _, _, ((HD8.out.step HWN.out).step HT.out).aside b5.2 HB2'.out (by omega) ⟨by decide, by decide, by decide, by decide, by decide⟩⟩
      · have hzi := HV0.out
        have hz8 := H8.out.2.2.1.lt
        have h1 := HVS.out.keptF fun q hq => b5.2.block q (HVS.out.lt q hq).2 (fun e => by have := (HVS.out.lt q hq).1; omega)
        exact OwnL.slb (h1.flat _) fun q hq hlt => by have := (HVS.out.lt q hq).1; omega
      · exact (H8.out.2.2.2.1.trans (.of (HWN.out.trans HT.out))).trans (b5.2.mono fun j _ hj => by omega)
end
end Go.Proofs.Ytbgfmikbhiblgaa
/- Walks: Give. -/
namespace Go.Proofs.Ytbgfmikbhiblgaa
set_option linter.unusedSimpArgs false
set_option linter.unusedVariables false
open Go.RowKit Go.BT

def noMsg : BT.Message := { frm := 0, dst := 0, number := 0, shw := 0, seats := [] }
set_option maxHeartbeats 1000000 in
theorem give1c_any {base : Nat} {W : World} {g : Nat} {h : House} {b : Book} (hD : DeskE base W g h b) (hO : OkDesk h b) (t s : Int) (l : List Int) (u : Value) (a1 a2 a3 a4 : Nat) (h1 : W.cell? ⟨a1, 0, none⟩ = some (.int .i64 t)) (h2 : W.cell? ⟨a2, 0, none⟩ = some (.int .i64 s)) (h3 : W.cell? ⟨a3, 0, none⟩ = some u)
    (hu : SL (fun j => base ≤ j) W u l) (hl : l.length ≤ 1000000) (y0 y1 y2 y3 y4 : Value) (h4 : Bx W a4 [y0, y1, y2, y3, y4] 74) (hb4 : a4 < base) (hbW : base ≤ W.heap.size) :
    Calls Try.prog 71 #[.pointer (some ⟨g, 0, none⟩), .pointer (some ⟨a1, 0, none⟩), .pointer (some ⟨a2, 0, none⟩), .pointer (some ⟨a3, 0, none⟩), .pointer (some ⟨a4, 0, none⟩)] W (fun e W' => DoEnds base (fun j => j = a4) g h (bookOf (giveD h b t s l)) (fun Z => ∃ z0 z1 z2 z3 z4, Bx Z a4 [z0, z1, z2, z3, z4] 74 ∧ Rep.rep (fun j => j < base) Z [z0, z1, z2, z3, z4] (restOf noMsg (giveD h b t s l))) e W W') := by
  obtain ⟨c0, c1, c2, c3, c4, vs, vo, vt, xs, D⟩ := hD
  have hcall := Lib.hid (give_any D hO t s l u hu hl)
  have H4 := Lib.hid h4
  have HB := Lib.hid (And.intro hb4 hbW)
  obtain ⟨pu, cu, rfl⟩ := hu.form
  clear D hO h4 hb4 hbW hu hl
  go_enter Try.func71, Try.ntmps71
  go_wp2_with fail
  refine hcall.out.mono ?_
  clear hcall
  rintro e w' he
  cases hr : giveD h b t s l with
  | ok p =>
    obtain ⟨b', m⟩ := p
    rw [hr] at he
    obtain ⟨v', rfl, hD, hm, hX⟩ := he
    obtain ⟨mc, rfl, hms⟩ := hm.message
    obtain ⟨pm, cm, rfl⟩ := hms.form
    have hb4 := H4.out.keep hX.keeps (by have := HB.out; omega)
    have f0 := hb4.cell 0
    have f1 := hb4.cell 1
    have f2 := hb4.cell 2
    have f3 := hb4.cell 3
    have f4 := hb4.cell 4
    have z0 := hb4.frozen
    simp only [List.getElem?_cons_zero, List.getElem?_cons_succ] at f0 f1 f2 f3 f4
    have HH := Lib.hid (And.intro hX (And.intro hD (And.intro hms hb4)))
    have HRR := Lib.hid hr
    clear hX hD hm hms hb4 hr
    go_wp2
    go_end0
    obtain ⟨hX, ⟨x0, x1, x2, x3, x4, ws, wo, wt, xs', hD⟩, hms, hb4⟩ := HH.out
    rw [HRR.out]
    have b5 := set5 hb4 (.int .i64 m.frm) (.int .i64 m.dst) (.int .i64 m.number) (.int .i64 m.shw) (.slice pm m.seats.length cm)
    have hsz : w'.heap.size ≤ _ := b5.2.size
    refine ⟨rfl, ⟨w', ⟨x0, x1, x2, x3, x4, ws, wo, wt, xs', hD⟩, hsz, fun j hj => ?_⟩, ⟨_, _, _, _, _, b5.1, _, rfl, ?_⟩, (hX.mono fun j _ hj => .inl hj).trans (b5.2.mono fun j _ hj => .inr hj)⟩
    · by_cases hlt : j < w'.heap.size
      · exact b5.2.block j hlt (by have := HB.out; omega)
      · rw [Array.getElem?_eq_none (by simp; omega), Array.getElem?_eq_none (by omega)]
    · exact (hms.weak fun j _ hj => by have := HB.out; omega).keep (b5.2.keeps.mono fun j _ hj => by have := HB.out; omega)
  | error c =>
    rw [hr] at he
    obtain ⟨rfl, hX⟩ := he
    exact ⟨rfl, by rw [hr]; exact ⟨rfl, hX⟩⟩
theorem DoneEnds.give {h : House} {b : Book} {r : Except Int (Book × BT.Message)} {w w' : World} {e : Ending} {a4 : Nat} (ha : Bx w a4 [.int .i64 0, .int .i64 0, .int .i64 0, .int .i64 0, .slice none 0 0] 74)
    (hd : DoneEnds (fun j => j = a4) (doneR h b (bookOf r)) (fun Z => ∃ z0 z1 z2 z3 z4, Bx Z a4 [z0, z1, z2, z3, z4] 74 ∧ Rep.rep (fun j => j < w.heap.size + 4) Z [z0, z1, z2, z3, z4] (restOf noMsg r)) w e w') :
    ∃ v' z0 z1 z2 z3 z4, e = .returned (.tuple #[v', .int .i64 (actR (bookOf (gate h b r))).2]) ∧ AV (Old w) w' v' (actR (bookOf (gate h b r))).1 ∧ Bx w' a4 [z0, z1, z2, z3, z4] 74 ∧ Rep.rep (Old w) w' [z0, z1, z2, z3, z4] (restOf noMsg (gate h b r)) ∧ StepX (fun j => j = a4) w w' := by
  rw [gate_book]
  unfold gate
  by_cases hc : checkR h b = 0
  · rw [if_pos hc]
    rw [show doneR h b (bookOf r) = bookOf r by simp [doneR, hc]] at hd ⊢
    cases r with
    | ok p =>
      obtain ⟨v', h1, h2, ⟨z0, z1, z2, z3, z4, h3, h4⟩, h5⟩ := hd
      exact ⟨v', z0, z1, z2, z3, z4, h1, h2, h3, Rep.weak (fun j _ hj => by unfold Old at hj; omega) h4, h5⟩
    | error c =>
      obtain ⟨v', h1, h2, h3⟩ := hd
      exact ⟨v', _, _, _, _, _, h1, h2, ha.step h3, ⟨_, rfl, SL.nil _ _⟩, .of h3⟩
  · rw [if_neg hc]
    rw [show doneR h b (bookOf r) = .error 1 by simp [doneR, hc]] at hd ⊢
    obtain ⟨v', h1, h2, h3⟩ := hd
    exact ⟨v', _, _, _, _, _, h1, h2, ha.step h3, ⟨_, rfl, SL.nil _ _⟩, .of h3⟩
/-- Two structs in variables, and a number. -/
theorem ret_struct_cc {P : Program} {fn : Func} {R : Ending → World → Prop} {a : Act} {w : World} {t u x : Tmp} {T U T' U' : TypeId} {k k' g g' : Nat} {cs ds : List Value} (hr : fn.results = #[.cell t T, .cell u U, .tmp x]) (hi : SI P T k) (hi' : SI P U k')
    (ht : a.tmps.getD t undef = .pointer (some ⟨g, 0, none⟩)) (hu : a.tmps.getD u undef = .pointer (some ⟨g', 0, none⟩)) (hb : Bx w g cs T') (hb' : Bx w g' ds U') (hk : cs.length = k) (hk' : ds.length = k') (hd : a.defers = []) (hR : R (.returned (.tuple #[.agg cs.toArray, .agg ds.toArray, a.tmps.getD x undef])) w) : bodyPost P fn R .ret a w := by
  refine bodyPost_ret (v := .tuple #[.agg cs.toArray, .agg ds.toArray, a.tmps.getD x undef]) ?_ hd hR
  have ht' : a.tmps[t]?.getD undef = .pointer (some ⟨g, 0, none⟩) := by simpa using ht
  have hu' : a.tmps[u]?.getD undef = .pointer (some ⟨g', 0, none⟩) := by simpa using hu
  simp [results, hr, ht', hu', asAddr, run_loadVar_bx hi hb hk, run_loadVar_bx hi' hb' hk']

set_option maxHeartbeats 2000000 in
theorem Give_any (S S2 : Nat → Prop) (h : House) (b : Book) (v u x : Value) (t s : Int) (l : List Int) (w : World) (hv : AV S w v h) (hu : AV S w u b) (hx : SL S2 w x l) (hl : l.length ≤ 1000000) :
    Calls Try.prog 35 #[v, u, .int .i64 t, .int .i64 s, x] w fun e w' => ∃ v' m', e = .returned (.tuple #[v', m', .int .i64 (actR (bookOf (gate h b (giveD h b t s l)))).2]) ∧ AV (Old w) w' v' (actR (bookOf (gate h b (giveD h b t s l)))).1 ∧ AV (Old w) w' m' (restOf noMsg (gate h b (giveD h b t s l))) ∧ Step w w' := by
  obtain ⟨cs, rfl, hr⟩ := hv
  have hr0 := hr
  obtain ⟨c0, c1, c2, c3, c4, rfl, h0, h1, h2, h3, h4⟩ := hr
  obtain ⟨cs, rfl, hq⟩ := hu
  have hq0 := hq
  obtain ⟨d1, d2, d4, rfl, s1, s2, s4⟩ := hq
  obtain ⟨px, cx, rfl⟩ := hx.form
  obtain ⟨W8, hW8⟩ : ∃ W8, W8 = (((((((w.alloc (.cells #[c0, c1, c2, c3, c4] 43)).alloc (.cells #[.int .i64 b.agency, d1, d2, .int .i64 b.sent, d4, .int .i64 b.cash] 36)).alloc (.cells #[.int .i64 t] 3)).alloc (.cells #[.int .i64 s] 3)).alloc (.cells #[.slice px l.length cx] 23)).alloc (.cells #[.int .i64 0, .slice none 0 0, .slice none 0 0, .int .i64 0, .slice none 0 0, .int .i64 0] 36)).alloc (.cells #[.int .i64 0, .int .i64 0, .int .i64 0, .int .i64 0, .slice none 0 0] 74)).alloc (.cells #[.int .i64 0, .int .i64 0, .int .i64 0, .int .i64 0, .slice none 0 0] 74) := ⟨_, rfl⟩
  have hS : Step w W8 := by subst hW8; exact (by repeat (first | (with_reducible assumption) | (with_reducible exact Step.refl _) | (with_reducible apply Step.s_alloc) | (with_reducible apply Step.s_drew) | (with_reducible apply Step.s_drewN) | (with_reducible refine Step.trans ?_ (by with_reducible assumption))))
  have hb2 : Bx W8 (w.heap.size + 2) [.int .i64 t] 3 := by subst hW8; exact (((((Bx.new' _ [_] _ _ (by simp)).alloc _).alloc _).alloc _).alloc _).alloc _
  have hb3 : Bx W8 (w.heap.size + 3) [.int .i64 s] 3 := by subst hW8; exact ((((Bx.new' _ [_] _ _ (by simp)).alloc _).alloc _).alloc _).alloc _
  have hb4 : Bx W8 (w.heap.size + 4) [.slice px l.length cx] 23 := by subst hW8; exact (((Bx.new' _ [_] _ _ (by simp)).alloc _).alloc _).alloc _
  have hb5 : Bx W8 (w.heap.size + 5) [.int .i64 0, .slice none 0 0, .slice none 0 0, .int .i64 0, .slice none 0 0, .int .i64 0] 36 := by subst hW8; exact ((Bx.new' _ [_, _, _, _, _, _] _ _ (by simp)).alloc _).alloc _
  have hb6 : Bx W8 (w.heap.size + 6) [.int .i64 0, .int .i64 0, .int .i64 0, .int .i64 0, .slice none 0 0] 74 := by subst hW8; exact (Bx.new' _ [_, _, _, _, _] _ _ (by simp)).alloc _
  have hb7 : Bx W8 (w.heap.size + 7) [.int .i64 0, .int .i64 0, .int .i64 0, .int .i64 0, .slice none 0 0] 74 := by subst hW8; exact Bx.new' _ [_, _, _, _, _] _ _ (by simp)
  have hz8 : W8.heap.size = w.heap.size + 8 := by subst hW8; simp
  have hmf : ∀ (fn : Fn) (first cap : Array Value) (w : World), (Instr.makeFunc fn first cap).run Try.prog w = .ok (.func fn first cap) w := fun _ _ _ _ => rfl
  have hold : ∀ j, j < w.heap.size → w.heap.size ≤ j → S j := fun j h1 h2 => by omega
  have hx8 : SL (fun j => w.heap.size ≤ j) W8 (.slice px l.length cx) l := (hx.weak fun j h1 h2 => by omega).keep (.of_step hS)
  have hcall := Lib.hid ((done_any (fun j => w.heap.size ≤ j) h b _ _ W8 71 #[.pointer (some ⟨w.heap.size + 2, 0, none⟩), .pointer (some ⟨w.heap.size + 3, 0, none⟩), .pointer (some ⟨w.heap.size + 4, 0, none⟩), .pointer (some ⟨w.heap.size + 7, 0, none⟩)] (Go.Proofs.enters_of Try.func71 (by kernel_rfl) rfl)
    (fun j => j = w.heap.size + 7) (bookOf (giveD h b t s l)) (fun Z => ∃ z0 z1 z2 z3 z4, Bx Z (w.heap.size + 7) [z0, z1, z2, z3, z4] 74 ∧ Rep.rep (fun j => j < W8.heap.size + 4) Z [z0, z1, z2, z3, z4] (restOf noMsg (giveD h b t s l)))
    ⟨_, rfl, Rep.keep (.of_step hS) (Rep.weak hold hr0)⟩ ⟨_, rfl, Rep.keep (.of_step hS) (Rep.weak hold hq0)⟩ (fun j hj => ⟨by omega, by omega⟩)
    (fun W W' ⟨z0, z1, z2, z3, z4, hz, hm⟩ hX => ⟨z0, z1, z2, z3, z4, hz.keep hX.keeps (by omega), Rep.keep (hX.keeps.mono fun j _ hj => by omega) hm⟩)
    (fun hck W base g hSW h1 h2 hD => (give1c_any hD (okDesk_of hck).1 t s l _ _ _ _ _ ((hb2.step hSW).cell 0) ((hb3.step hSW).cell 0) ((hb4.step hSW).cell 0) ((hx8.keep (.of_step hSW)).weak fun j _ hj => by omega) hl _ _ _ _ _ (hb7.step hSW) (by omega) h2).mono fun e w' he => by
      cases hrr : giveD h b t s l with
      | ok p =>
        rw [hrr] at he
        obtain ⟨e1, e2, ⟨z0, z1, z2, z3, z4, e3, e4⟩, e5⟩ := he
        exact ⟨e1, e2, ⟨z0, z1, z2, z3, z4, e3, Rep.weak (fun j _ hj => by omega) e4⟩, e5⟩
      | error c => rw [hrr] at he; exact he)).mono fun e w' he => he.give hb7)
  have HW := Lib.hid hW8
  have HS := Lib.hid hS
  have HB5 := Lib.hid hb5
  have HB6 := Lib.hid hb6
  have HZ8 := Lib.hid hz8
  obtain ⟨p0, k0, rfl⟩ := h0.form
  obtain ⟨p1, k1, rfl⟩ := h1.form
  obtain ⟨p2, k2, rfl⟩ := h2.form
  obtain ⟨p3, k3, rfl⟩ := h3.form
  obtain ⟨p4, k4, rfl⟩ := h4.form
  obtain ⟨q1, m1, rfl⟩ := s1.form
  obtain ⟨q2, m2, rfl⟩ := s2.form
  obtain ⟨q4, m4, rfl⟩ := s4.form
  clear hW8 hS hb2 hb3 hb4 hb5 hb6 hb7 hz8 h0 h1 h2 h3 h4 s1 s2 s4 hr0 hq0 hold hx8 hx hl
  go_enter Try.func35, Try.ntmps35
  go_wp2_with fail
  rw [← HW.out]
  clear HW
  refine hcall.out.mono ?_
  clear hcall
  rintro e w1 ⟨v', z0, z1, z2, z3, z4, rfl, hv', hb7, hm', hS1⟩
  generalize hbk : (actR (bookOf (gate h b (giveD h b t s l)))).1 = bk at *
  generalize hec : (actR (bookOf (gate h b (giveD h b t s l)))).2 = ec at *
  generalize hmm : restOf noMsg (gate h b (giveD h b t s l)) = mm at *
  have HBK := Lib.hid (And.intro hbk (And.intro hec hmm))
  obtain ⟨b1, b2, b4, rfl, t1, t2, t4⟩ := hv'.book
  obtain ⟨q1, m1, rfl⟩ := t1.form
  obtain ⟨q2, m2, rfl⟩ := t2.form
  obtain ⟨q4, m4, rfl⟩ := t4.form
  have hm0 := hm'
  obtain ⟨mc, hme, hms⟩ := hm'
  injection hme with e0 hme
  injection hme with e1 hme
  injection hme with e2 hme
  injection hme with e3 hme
  injection hme with e4 _
  subst e0 e1 e2 e3 e4
  obtain ⟨pm, cm, rfl⟩ := hms.form
  have HV := Lib.hid (And.intro hv' hm0)
  have hb5' := HB5.out.keep hS1.keeps (by omega)
  have hb6' := HB6.out.keep hS1.keeps (by omega)
  have HS1 := Lib.hid (And.intro hS1 (And.intro hb5' hb6'))
  have y0 := hb7.cell 0
  have y1 := hb7.cell 1
  have y2 := hb7.cell 2
  have y3 := hb7.cell 3
  have y4 := hb7.cell 4
  have g0 := hb6'.cell 0
  have g1 := hb6'.cell 1
  have g2 := hb6'.cell 2
  have g3 := hb6'.cell 3
  have g4 := hb6'.cell 4
  simp only [List.getElem?_cons_zero, List.getElem?_cons_succ] at y0 y1 y2 y3 y4 g0 g1 g2 g3 g4
  obtain ⟨f0, f1, f2, f3, f4, f5⟩ := cells6 hb5'
  have zf := hb5'.frozen
  have zg := hb6'.frozen
  have hn1 := HZ8.out
  have hn2 := hS1.size
  have hn3 : w.heap.size + 5 < w1.heap.size := by omega
  have hn4 : w.heap.size + 6 < w1.heap.size := by omega
  have hn5 : w.heap.size + 7 < w1.heap.size := by omega
  have hzz : w.heap.size + 5 ≠ w1.heap.size := by omega
  have hzz2 : w1.heap.size ≠ w.heap.size + 5 := by omega
  have hzz3 : w.heap.size + 6 ≠ w1.heap.size := by omega
  have hzz4 : w1.heap.size ≠ w.heap.size + 6 := by omega
  clear hv' hS1 t1 t2 t4 hb7 hm0 hms hbk hec hmm hb5' hb6' hn1 hn2
  go_wp2
  go_region
  clear y0 y1 y2 y3 y4 g0 g1 g2 g3 g4 f0 f1 f2 f3 f4 f5 zf zg hn3 hn4 hn5 hzz hzz2 hzz3 hzz4
  go_wp2
  have hz8 := HZ8.out
  have b6 := set6 HS1.out.2.1 (.int .i64 bk.agency) (.slice q1 bk.seats.length m1) (.slice q2 bk.off.length m2) (.int .i64 bk.sent) (.slice q4 bk.took.length m4) (.int .i64 bk.cash)
  have b7 := set5 (HS1.out.2.2.keep b6.2.keeps (by omega)) (.int .i64 mm.frm) (.int .i64 mm.dst) (.int .i64 mm.number) (.int .i64 mm.shw) (.slice pm mm.seats.length cm)
  have hX : StepX (fun j => j = w.heap.size + 5 ∨ j = w.heap.size + 6) w1 _ := (((b6.2.mono fun _ _ h => .inl h).trans (b7.2.mono fun _ _ h => .inr h)).alloc' (.cells #[.int .i64 bk.agency, .slice q1 bk.seats.length m1, .slice q2 bk.off.length m2, .int .i64 bk.sent, .slice q4 bk.took.length m4, .int .i64 bk.cash] 36)).drew'
  refine ret_struct_cc (k := 6) (k' := 5) rfl siBook siMessage rfl rfl (((b6.1.keep b7.2.keeps (by omega)).alloc _).step (.drew _)) ((b7.1.alloc _).step (.drew _)) rfl rfl rfl ?_
  rw [HBK.out.1, HBK.out.2.1, HBK.out.2.2]
  refine ⟨_, _, rfl, (AV.keep (hX.keeps.mono fun j _ hj => ?_) HV.out.1).weak fun j _ hj => ?_, ⟨_, rfl, Rep.weak (fun j _ hj => ?_) (Rep.keep (hX.keeps.mono fun j _ hj => ?_) HV.out.2)⟩, StepX.fresh (StepX.fresh HS.out HS1.out.1 (fun j hj => by omega)) hX (fun j hj => by omega)⟩
  · unfold Old; omega
  · unfold Old at *; omega
  · unfold Old at *; omega
  · unfold Old; omega
end Go.Proofs.Ytbgfmikbhiblgaa
