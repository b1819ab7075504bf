/- Walks and plain laws, part n. -/
import Derived.Test.YtgpiieogiafdoaaGreatMc
import Derived.Test.YtgpiieogiafdoaaGreatMd
import Derived.Test.YtgpiieogiafdoaaGreatMj
import Derived.Test.YtgpiieogiafdoaaGreatMm
import Derived.Test.YtgpiieogiafdoaaGreatRows
namespace Go.Proofs.YtgpiieogiafdoaaGreat
set_option linter.unusedSimpArgs false
set_option linter.unusedVariables false
open Go.RowKit Go.BT
def freeOk (h : House) (s c d : Int) : Bool := withinB s 0 (h.dates.length - 1) && withinB c 0 (h.prices.length - 1) && withinB d 0 1000
def freeD (h : House) (b : Book) (s c d : Int) : Except Int (Book × List Int) := if freeOk h s c d = true then .ok (b, openL h b s c d) else .error 2
theorem freeD_no {h : House} {b : Book} {s c d : Int} (hc : freeOk h s c d = false) : freeD h b s c d = .error 2 := by simp [freeD, hc]
theorem freeD_yes {h : House} {b : Book} {s c d : Int} (hc : freeOk h s c d = true) : freeD h b s c d = .ok (b, openL h b s c d) := by simp [freeD, hc]
set_option maxHeartbeats 2000000 in
theorem free1_any {base : Nat} {W : World} {g : Nat} {h : House} {b : Book} (hD : DeskE base W g h b) (hO : OkDesk h b) (s c d : Int) (a1 a2 a3 a4 a5 : Nat) (h1 : W.cell? ⟨a1, 0, none⟩ = some (.int .i64 s)) (h2 : W.cell? ⟨a2, 0, none⟩ = some (.int .i64 c)) (p1 : Option Addr) (k1 : Nat) (h3 : W.cell? ⟨a3, 1, none⟩ = some (.slice p1 h.prices.length k1)) (h4 : W.cell? ⟨a4, 0, none⟩ = some (.int .i64 d))
  (y : Value) (h5 : Bx W a5 [y] 23) (hb5 : a5 < base) (hbW : base ≤ W.heap.size) :
  Calls Tryz.prog 75 #[.pointer (some ⟨g, 0, none⟩), .pointer (some ⟨a1, 0, none⟩), .pointer (some ⟨a2, 0, none⟩), .pointer (some ⟨a3, 0, none⟩), .pointer (some ⟨a4, 0, none⟩), .pointer (some ⟨a5, 0, none⟩)] W (fun e W' => DoEnds base (fun j => j = a5) g h (bookOf (freeD h b s c d)) (fun Z => ∃ v', Bx Z a5 [v'] 23 ∧ SL (fun j => j < base) Z v' (restOf [] (freeD h b s c d))) e W W') := by
 obtain ⟨c0, c1, c2, c3, c4, vs, vo, vt, xs, D⟩ := hD
 have HD := Lib.hid D
 have HO := Lib.hid hO
 have HC := Lib.hid (And.intro h1 (And.intro h2 (And.intro h3 h4)))
 have H5 := Lib.hid h5
 have HB := Lib.hid (And.intro hb5 hbW)
 have HT := Lib.hid (Step.refl W)
 have hm : h.prices.length ≤ 9223372036854775807 := by
  obtain ⟨_, r1, _⟩ := rep5 D.house
  exact r1.len
 have hwp : IntKind.i64.wrap ((h.prices.length : Int) - 1) = (h.prices.length : Int) - 1 := by rw [IntKind.wrap_i64]; omega
 clear D hO h5 hb5 hbW hm
 go_enter Tryz.func75, Tryz.ntmps75
 cases q1 : withinB s 0 (h.dates.length - 1) with
 | false =>
  have HF := Lib.hid (freeD_no (h := h) (b := b) (s := s) (c := c) (d := d) (by simp [freeOk, q1]))
  have hcall := Lib.hid (show_no HD.out s q1)
  go_wp2_with fail
  refine hcall.out.mono ?_
  clear hcall
  rintro e wn ⟨rfl, hSn⟩
  have HTi := Lib.hid (HT.out.trans hSn)
  clear hSn HT
  have HT := HTi
  clear HTi
  exact ⟨rfl, by rw [HF.out]; exact ⟨rfl, .of HT.out⟩⟩
 | true =>
 have hcall := Lib.hid (show_yes HD.out s q1)
 go_wp2_with fail
 refine hcall.out.mono ?_
 clear hcall
 rintro e wn ⟨rfl, hSn⟩
 have HTi := Lib.hid (HT.out.trans hSn)
 clear hSn HT
 have HT := HTi
 clear HTi
 have Q1 := Lib.hid q1
 clear q1 h1 h2 h3 h4
 have y2 := HT.out.kc HC.out.2.1
 have y3 := HT.out.kc HC.out.2.2.1
 have y4 := HT.out.kc HC.out.2.2.2
 go_wp2_with fail
 refine (within_st _ _ _ _).mono ?_
 rintro e wn ⟨rfl, hSn⟩
 have HTi := Lib.hid (HT.out.trans hSn)
 clear hSn HT
 have HT := HTi
 clear HTi
 clear y2 y3 y4
 cases q2 : withinB c 0 ((h.prices.length : Int) - 1) with
 | false =>
  have HF := Lib.hid (freeD_no (h := h) (b := b) (s := s) (c := c) (d := d) (by simp [freeOk, q2]))
  clear q2
  go_wp2_with fail
  refine (ask_no _ _).mono ?_
  rintro e wn ⟨rfl, hSn⟩
  have HTi := Lib.hid (HT.out.trans hSn)
  clear hSn HT
  have HT := HTi
  clear HTi
  exact ⟨rfl, by rw [HF.out]; exact ⟨rfl, .of HT.out⟩⟩
 | true =>
 have Q2 := Lib.hid q2
 clear q2
 have y4 := HT.out.kc HC.out.2.2.2
 go_wp2_with fail
 refine (within_st _ _ _ _).mono ?_
 rintro e wn ⟨rfl, hSn⟩
 have HTi := Lib.hid (HT.out.trans hSn)
 clear hSn HT
 have HT := HTi
 clear HTi
 clear y4
 cases q3 : withinB d 0 1000 with
 | false =>
  have HF := Lib.hid (freeD_no (h := h) (b := b) (s := s) (c := c) (d := d) (by simp [freeOk, q3]))
  clear q3
  go_wp2_with fail
  refine (ask_no _ _).mono ?_
  rintro e wn ⟨rfl, hSn⟩
  have HTi := Lib.hid (HT.out.trans hSn)
  clear hSn HT
  have HT := HTi
  clear HTi
  exact ⟨rfl, by rw [HF.out]; exact ⟨rfl, .of HT.out⟩⟩
 | true =>
 have HF := Lib.hid (freeD_yes (h := h) (b := b) (s := s) (c := c) (d := d) (by simp [freeOk, Q1.out, Q2.out, q3]))
 clear q3
 go_wp2_with fail
 refine (ask_yes _ _).mono ?_
 rintro e wn ⟨rfl, hSn⟩
 have HTi := Lib.hid (HT.out.trans hSn)
 clear hSn HT
 have HT := HTi
 clear HTi
 obtain ⟨i, rfl, hi0, hi1⟩ := within_nat Q1.out (by omega)
 have hi : i < h.dates.length := by omega
 clear hi0 hi1
 have y1 := HT.out.kc HC.out.1
 have y2 := HT.out.kc HC.out.2.1
 have y4 := HT.out.kc HC.out.2.2.2
 have hcall := Lib.hid (open2_any (HD.out.step HT.out) HO.out i hi c d)
 go_wp2_with fail
 refine hcall.out.mono ?_
 rintro e w2 ⟨v', rfl, hv', hS2⟩
 obtain ⟨pv, cv, rfl⟩ := hv'.form
 have HV := Lib.hid hv'
 have HZ := Lib.hid HT.out.size
 have HT2 := Lib.hid (HT.out.trans hS2)
 have hb5 := H5.out.step HT2.out
 have f0 := hb5.cell 0
 have z0 := hb5.frozen 0
 simp only [List.getElem?_cons_zero] at f0
 have HB5 := Lib.hid hb5
 clear hv' hS2 hcall y1 y2 y4 hb5 HT
 go_wp2
 go_end0
 rw [HF.out]
 obtain ⟨hb5, hbW⟩ := HB.out
 have hz := HZ.out
 have hw := Wrote.setCell w2 a5 0 (.slice pv (openL h b i c d).length cv)
 refine ⟨rfl, ⟨w2, ⟨c0, c1, c2, c3, c4, vs, vo, vt, xs, HD.out.step HT2.out⟩, Nat.le_of_eq hw.size.symm, fun j hj => hw.block j (by omega)⟩, ⟨_, HB5.out.setCell 0 _, ?_⟩, (StepX.of HT2.out).setCell ⟨a5, 0, none⟩ _ (.inr rfl)⟩
 exact (HV.out.weak fun j _ hj => by unfold Old; omega).keep (.wrote hw hb5)
theorem DoneEnds.free {h : House} {b : Book} {r : Except Int (Book × List Int)} {w w' : World} {e : Ending} {a3 : Nat} (ha : Bx w a3 [.slice none 0 0] 23)
  (hd : DoneEnds (fun j => j = a3) (doneR h b (bookOf r)) (fun Z => ∃ v', Bx Z a3 [v'] 23 ∧ SL (fun j => j < w.heap.size + 4) Z v' (restOf [] r)) w e w') :
  ∃ v' l', e = .returned (.tuple #[v', .int .i64 (actR (bookOf (gate h b r))).2]) ∧ AV (Old w) w' v' (actR (bookOf (gate h b r))).1 ∧ Bx w' a3 [l'] 23 ∧ SL (Old w) w' l' (restOf [] (gate h b r)) ∧ StepX (fun j => j = a3) w w' := by
 rw [gate_book]
 unfold gate
 by_cases hc : checkR h b = 0
 ·rw [if_pos hc]
  rw [show doneR h b (bookOf r) = bookOf r by simp [doneR, hc]] at hd ⊢
  cases r with
  | ok p =>
   obtain ⟨v', h1, h2, ⟨l', h3, h4⟩, h5⟩ := hd
   exact ⟨v', l', h1, h2, h3, h4.weak (fun j _ hj => by unfold Old at hj; omega), h5⟩
  | error c =>
   obtain ⟨v', h1, h2, h3⟩ := hd
   exact ⟨v', _, h1, h2, ha.step h3, SL.nil _ _, .of h3⟩
 ·rw [if_neg hc]
  rw [show doneR h b (bookOf r) = .error 1 by simp [doneR, hc]] at hd ⊢
  obtain ⟨v', h1, h2, h3⟩ := hd
  exact ⟨v', _, h1, h2, ha.step h3, SL.nil _ _, .of h3⟩
set_option maxHeartbeats 2000000 in
theorem Free_any (S : Nat → Prop) (h : House) (b : Book) (v u : Value) (s c d : Int) (w : World) (hv : AV S w v h) (hu : AV S w u b) :
  Calls Tryz.prog 37 #[v, u, .int .i64 s, .int .i64 c, .int .i64 d] w fun e w' => ∃ l', e = .returned (.tuple #[l', .int .i64 (actR (bookOf (gate h b (freeD h b s c d)))).2]) ∧ SL (Old w) w' l' (restOf [] (gate h b (freeD h b s c d))) ∧ Step w w' := by
 obtain ⟨cs, rfl, hr⟩ := hv
 have hr0 := hr
 obtain ⟨c0, c1, c2, c3, c4, rfl, h0, h1, h2, h3, h4⟩ := hr
 obtain ⟨p1, k1, rfl⟩ := h1.form
 obtain ⟨cs, rfl, hq⟩ := hu
 have hq0 := hq
 obtain ⟨d1, d2, d4, rfl, s1, s2, s4⟩ := hq
 obtain ⟨W6, hW6⟩ : ∃ W6, W6 = (((((w.alloc (.cells #[c0, .slice p1 h.prices.length k1, c2, c3, c4] 41)).alloc (.cells #[.int .i64 b.agency, d1, d2, .int .i64 b.sent, d4, .int .i64 b.cash] 77)).alloc (.cells #[.int .i64 s] 3)).alloc (.cells #[.int .i64 c] 3)).alloc (.cells #[.int .i64 d] 3)).alloc (.cells #[.slice none 0 0] 23) := ⟨_, rfl⟩
 have hS : Step w W6 := by subst hW6; exact (by repeat (first | (with_reducible assumption) | (with_reducible exact Step.refl _) | (with_reducible apply Step.s_alloc) | (with_reducible apply Step.s_drew) | (with_reducible apply Step.s_drewN) | (with_reducible refine Step.trans ?_ (by with_reducible assumption))))
 have hb0 : Bx W6 w.heap.size [c0, .slice p1 h.prices.length k1, c2, c3, c4] 41 := by subst hW6; exact (((((Bx.new _ _ _).alloc _).alloc _).alloc _).alloc _).alloc _
 have hb2 : Bx W6 (w.heap.size + 2) [.int .i64 s] 3 := by subst hW6; exact (((Bx.new' _ [_] _ _ (by simp)).alloc _).alloc _).alloc _
 have hb3 : Bx W6 (w.heap.size + 3) [.int .i64 c] 3 := by subst hW6; exact ((Bx.new' _ [_] _ _ (by simp)).alloc _).alloc _
 have hb4 : Bx W6 (w.heap.size + 4) [.int .i64 d] 3 := by subst hW6; exact (Bx.new' _ [_] _ _ (by simp)).alloc _
 have hb5 : Bx W6 (w.heap.size + 5) [.slice none 0 0] 23 := by subst hW6; exact Bx.new' _ [_] _ _ (by simp)
 have hz6 : W6.heap.size = w.heap.size + 6 := by subst hW6; simp
 have hmf : ∀ (fn : Fn) (first cap : Array Value) (w : World), (Instr.makeFunc fn first cap).run Tryz.prog w = .ok (.func fn first cap) w := fun _ _ _ _ => rfl
 have hold : ∀ j, j < w.heap.size → w.heap.size ≤ j → S j := fun j h1 h2 => by omega
 have hcall := Lib.hid ((done_any (fun j => w.heap.size ≤ j) h b _ _ W6 75 #[.pointer (some ⟨w.heap.size + 2, 0, none⟩), .pointer (some ⟨w.heap.size + 3, 0, none⟩), .pointer (some ⟨w.heap.size, 0, none⟩), .pointer (some ⟨w.heap.size + 4, 0, none⟩), .pointer (some ⟨w.heap.size + 5, 0, none⟩)] (Go.Proofs.enters_of Tryz.func75 (by kernel_rfl) rfl)
  (fun j => j = w.heap.size + 5) (bookOf (freeD h b s c d)) (fun Z => ∃ v', Bx Z (w.heap.size + 5) [v'] 23 ∧ SL (fun j => j < W6.heap.size + 4) Z v' (restOf [] (freeD h b s c d)))
  ⟨_, rfl, Rep.keep (.of_step hS) (Rep.weak hold hr0)⟩ ⟨_, rfl, Rep.keep (.of_step hS) (Rep.weak hold hq0)⟩ (fun j hj => ⟨by omega, by omega⟩)
  (fun W W' ⟨v', hz, hl⟩ hX => ⟨v', hz.keep hX.keeps (by omega), hl.keep (hX.keeps.mono fun j _ hj => by omega)⟩)
  (fun hck W base g hSW h1 h2 hD => (free1_any hD (okDesk_of hck).1 s c d _ _ _ _ _ ((hb2.step hSW).cell 0) ((hb3.step hSW).cell 0) p1 k1 ((hb0.step hSW).cell 1) ((hb4.step hSW).cell 0) _ (hb5.step hSW) (by omega) h2).mono fun e w' he => by
   cases hrr : freeD h b s c d with
   | ok p =>
    rw [hrr] at he
    obtain ⟨e1, e2, ⟨v', e3, e4⟩, e5⟩ := he
    exact ⟨e1, e2, ⟨v', e3, e4.weak fun j _ hj => by omega⟩, e5⟩
   | error c => rw [hrr] at he; exact he)).mono fun e w' he => he.free hb5)
 have HW := Lib.hid hW6
 have HS := Lib.hid hS
 have HZ6 := Lib.hid hz6
 obtain ⟨p0, k0, rfl⟩ := h0.form
 obtain ⟨p2, k2, rfl⟩ := h2.form
 obtain ⟨p3, k3, rfl⟩ := h3.form
 obtain ⟨p4, k4, rfl⟩ := h4.form
 obtain ⟨q1, m1, rfl⟩ := s1.form
 obtain ⟨q2, m2, rfl⟩ := s2.form
 obtain ⟨q4, m4, rfl⟩ := s4.form
 clear hW6 hS hb0 hb2 hb3 hb4 hb5 hz6 h0 h1 h2 h3 h4 s1 s2 s4 hr0 hq0 hold
 go_enter Tryz.func37, Tryz.ntmps37
 go_wp2_with fail
 rw [← HW.out]
 clear HW
 refine hcall.out.mono ?_
 clear hcall
 rintro e w1 ⟨v', l', rfl, hv', hb5, hl', hS1⟩
 generalize hbk : (actR (bookOf (gate h b (freeD h b s c d)))).1 = bk at *
 generalize hec : (actR (bookOf (gate h b (freeD h b s c d)))).2 = ec at *
 have HEC := Lib.hid hec
 obtain ⟨b1, b2, b4, rfl, t1, t2, t4⟩ := hv'.book
 obtain ⟨q1, m1, rfl⟩ := t1.form
 obtain ⟨q2, m2, rfl⟩ := t2.form
 obtain ⟨q4, m4, rfl⟩ := t4.form
 obtain ⟨ql, ml, rfl⟩ := hl'.form
 have HV := Lib.hid hl'
 have y0 := hb5.cell 0
 simp only [List.getElem?_cons_zero] at y0
 have HS1 := Lib.hid hS1
 have hn1 := HZ6.out
 have hn2 := hS1.size
 have hn4 : w.heap.size + 5 < w1.heap.size := by omega
 have hn5 : w.heap.size + 5 ≠ w1.heap.size := by omega
 clear hv' hS1 t1 t2 t4 hb5 hl' hbk hec hn1 hn2
 go_wp2
 go_ret2
 rw [HEC.out]
 have hz6 := HZ6.out
 have hsA := Step.alloc w1 (.cells #[.int .i64 bk.agency, .slice q1 bk.seats.length m1, .slice q2 bk.off.length m2, .int .i64 bk.sent, .slice q4 bk.took.length m4, .int .i64 bk.cash] 77)
 exact ⟨_, rfl, (HV.out.keep (.of_step hsA)).weak fun j _ hj => by unfold Old at *; omega, (StepX.fresh HS.out HS1.out (fun j hj => by omega)).trans hsA⟩
theorem CheckBook_any (S : Nat → Prop) (h : House) (b : Book) (v u : Value) (w : World) (hv : AV S w v h) (hu : AV S w u b) :
  Calls Tryz.prog 39 #[v, u] w fun e w' => e = .returned (.int .i64 (checkR h b)) ∧ Step w w' := by
 obtain ⟨cs, rfl, hr⟩ := hv
 have hr0 := hr
 obtain ⟨c0, c1, c2, c3, c4, rfl, h0, h1, h2, h3, h4⟩ := hr
 obtain ⟨cs, rfl, hq⟩ := hu
 have hq0 := hq
 obtain ⟨d1, d2, d4, rfl, s1, s2, s4⟩ := hq
 obtain ⟨p0, k0, rfl⟩ := h0.form
 obtain ⟨p1, k1, rfl⟩ := h1.form
 obtain ⟨p2, k2, rfl⟩ := h2.form
 obtain ⟨p3, k3, rfl⟩ := h3.form
 obtain ⟨p4, k4, rfl⟩ := h4.form
 obtain ⟨q1, m1, rfl⟩ := s1.form
 obtain ⟨q2, m2, rfl⟩ := s2.form
 obtain ⟨q4, m4, rfl⟩ := s4.form
 have HR := Lib.hid hr0
 have HQ := Lib.hid hq0
 clear h0 h1 h2 h3 h4 s1 s2 s4 hr0 hq0
 go_enter Tryz.func39, Tryz.ntmps39
 go_wp2_with fail
 have hS : Step w ((w.alloc (.cells #[.slice p0 h.sectors.length k0, .slice p1 h.prices.length k1, .slice p2 h.dates.length k2, .slice p3 h.frm.length k3, .slice p4 h.holds.length k4] 41)).alloc (.cells #[.int .i64 b.agency, .slice q1 b.seats.length m1, .slice q2 b.off.length m2, .int .i64 b.sent, .slice q4 b.took.length m4, .int .i64 b.cash] 77)) := (by repeat (first | (with_reducible assumption) | (with_reducible exact Step.refl _) | (with_reducible apply Step.s_alloc) | (with_reducible apply Step.s_drew) | (with_reducible apply Step.s_drewN) | (with_reducible refine Step.trans ?_ (by with_reducible assumption))))
 refine (check_any S h b _ _ _ ⟨_, rfl, Rep.keep (.of_step hS) HR.out⟩ ⟨_, rfl, Rep.keep (.of_step hS) HQ.out⟩).mono ?_
 rintro e wn ⟨rfl, hSn⟩
 go_wp2
 go_ret
 exact ⟨rfl, hS.trans hSn⟩
def nmB : Book := ⟨1, [[-1, -1, -1, -1, -1], [-1, 0, -1, 0, 0]], [false, false], 0, [], 0⟩
def nmD : Book := ⟨1, [[-1, -1, -1, 0, 0], [-1, 0, -1, 0, 0]], [false, false], 0, [⟨0, 1⟩], 0⟩
def nmT : Book := ⟨0, [[0, 0, 7, 8, 0], [0, -1, 0, -1, -1]], [false, false], 0, [], 40⟩
def nmM : BT.Message := ⟨0, 1, 1, 0, [3, 4]⟩
def nmO : Book := ⟨0, [[0, 0, 7, 0, 0], [0, -1, 0, -1, -1]], [false, false], 0, [], 21⟩
def nmL : List ActT := [⟨9, 0, 0, 0, 0, 0, 0, 0, []⟩, ⟨3, 0, 0, 0, 0, 0, 1, 0, [0]⟩, ⟨4, 1, 0, 0, 0, 0, 0, 1, []⟩]
theorem nm_b : openR tentH 1 = (nmB, 0) := by kernel_rfl
theorem nm_g : actR (doneR tentH nmB (sellD tentH nmB 0 2 7 3)) = (noBook, 8) := by kernel_rfl
theorem nm_h : actR (doneR tentH nmB (sellD tentH nmB 0 2 7 5)) = (noBook, 7) := by kernel_rfl
theorem nm_i : actR (doneR tentH nmB (sellD tentH nmB 0 2 7 11)) = (noBook, 11) := by kernel_rfl
theorem nm_k : actR (doneR tentH nmB (takeD tentH nmB nmM)) = (nmD, 0) := by kernel_rfl
theorem nm_n : actR (doneR tentH nmD (takeD tentH nmD nmM)) = (noBook, 6) := by kernel_rfl
theorem nm_two : actR (doneR tentH tentC (sellD tentH tentC 0 3 8 3)) = (nmT, 0) := by kernel_rfl
theorem nm_x : gate tentH nmT (loseD tentH nmT 0 4) = .ok (tentD, [⟨2, 1, 2⟩, ⟨3, -1, -1⟩]) := by kernel_rfl
theorem nm_l : gate tentH tentB (freeD tentH tentB 1 0 4) = .ok (tentB, [0]) := by kernel_rfl
theorem nm_s : actR (doneR tentH tentC (sellD tentH tentC 0 2 9 3)) = (noBook, 6) := by kernel_rfl
theorem nm_t : actR (doneR tentH tentB (refundD tentH tentB 0 2)) = (noBook, 7) := by kernel_rfl
theorem nm_u : gate tentH tentD (loseD tentH tentD 0 4) = .error 6 := by kernel_rfl
theorem nm_v : actR (doneR tentH tentD (sellD tentH tentD 0 0 9 3)) = (noBook, 8) := by kernel_rfl
theorem nm_o : checkR tentH nmO = 1 := by kernel_rfl
theorem nm_valid : valid tentH = true := by kernel_rfl
theorem nm_runC : runC tentH nmL = 0 := by kernel_rfl
theorem nm_runE : runE tentH nmL = [1, 0, 2] := by kernel_rfl
theorem nm_len : (runW tentH nmL).books.length = 2 ∧ (runW tentH nmL).msgs.length = 1 := ⟨by kernel_rfl, by kernel_rfl⟩
theorem nm_sound : soundB tentH (runW tentH nmL) = true := by
 rw [show runW tentH nmL = worldAt tentH nmL nmL.length by rw [runW, if_pos nm_runC]]
 exact inv_sound nm_valid (world_inv nm_valid nmL nmL.length)
theorem nm_kinds : ∀ i (hi : i < nmL.length), 0 ≤ nmL[i].kind ∧ nmL[i].kind ≤ 255 := by decide
theorem nm_seats : ∀ i (hi : i < nmL.length), nmL[i].seats.length ≤ 1000000 := by decide
theorem nm_none : checkHouseC ⟨[], [], [], [], []⟩ = 1 := by kernel_rfl
set_option maxRecDepth 100000 in
set_option maxHeartbeats 16000000 in
theorem TicketNames_any (w : World) : Calls Tryz.prog 7 #[] w fun e w' => e = .returned (.bool true) ∧ Step w w' := by
 go_enter Tryz.func7, Tryz.ntmps7
 have HS := Lib.hid (Step.refl w)
 go_wp2_with fail
 refine (Tent_any _).mono ?_
 rintro e wn ⟨vh, rfl, hvh, hSn⟩
 have HVH := Lib.hid (AV.triv hvh)
 have HT := Lib.hid hSn
 clear hvh hSn
 go_wp2_with fail
 refine (Open_any _ tentH 0 _ _ HVH.out).mono ?_
 rintro e wn2 ⟨v2, rfl, hv2, hSn⟩
 rw [tent_open] at hv2 ⊢
 dsimp only at hv2
 obtain ⟨x1, x2, x4, rfl, t1, t2, t4⟩ := hv2.book
 obtain ⟨raa, naa, rfl⟩ := t1.form
 obtain ⟨rba, nba, rfl⟩ := t2.form
 obtain ⟨rca, nca, rfl⟩ := t4.form
 have HAa := Lib.hid (AV.triv hv2)
 have HTx := Lib.hid (HT.out.trans hSn)
 clear t1 t2 t4 hv2 HVH HT hSn
 go_upto_region 2 with (fail)
 obtain ⟨gaa, hga⟩ : ∃ g, g = wn2.heap.size := ⟨_, rfl⟩
 obtain ⟨wa, hwa⟩ : ∃ z9, z9 = wn2.alloc (.cells #[.int .i64 (tentB).agency, .slice raa (tentB).seats.length naa, .slice rba (tentB).off.length nba, .int .i64 (tentB).sent, .slice rca (tentB).took.length nca, .int .i64 (tentB).cash] 77) := ⟨_, rfl⟩
 have hba : Bx wa gaa [.int .i64 (tentB).agency, .slice raa (tentB).seats.length naa, .slice rba (tentB).off.length nba, .int .i64 (tentB).sent, .slice rca (tentB).took.length nca, .int .i64 (tentB).cash] 77 := by subst hwa hga; exact Bx.new _ [_, _, _, _, _, _] _
 have hSw : Step wn2 wa := by subst hwa; exact Step.alloc _ _
 rw [← hwa, ← hga]
 have HBa := Lib.hid hba
 replace HAa := Lib.hid (HAa.out.keep (.of_step hSw))
 replace HTx := Lib.hid (HTx.out.trans hSw)
 clear hba hSw hwa hga
 replace HS := Lib.hid (HS.out.trans HTx.out)
 clear HTx
 go_wp2_with fail
 refine (Tent_any _).mono ?_
 rintro e wn ⟨vh, rfl, hvh, hSn⟩
 have HVH := Lib.hid (AV.triv hvh)
 have HT := Lib.hid hSn
 clear hvh hSn
 go_wp2_with fail
 refine (Open_any _ tentH 1 _ _ HVH.out).mono ?_
 rintro e wn2 ⟨v2, rfl, hv2, hSn⟩
 rw [nm_b] at hv2 ⊢
 dsimp only at hv2
 obtain ⟨x1, x2, x4, rfl, t1, t2, t4⟩ := hv2.book
 obtain ⟨rab, nab, rfl⟩ := t1.form
 obtain ⟨rbb, nbb, rfl⟩ := t2.form
 obtain ⟨rcb, ncb, rfl⟩ := t4.form
 have HAb := Lib.hid (AV.triv hv2)
 have HTx := Lib.hid (HT.out.trans hSn)
 clear t1 t2 t4 hv2 HVH HT hSn
 go_upto_region 3 with (fail)
 obtain ⟨gab, hga⟩ : ∃ g, g = wn2.heap.size := ⟨_, rfl⟩
 obtain ⟨wb, hwb⟩ : ∃ z9, z9 = wn2.alloc (.cells #[.int .i64 (nmB).agency, .slice rab (nmB).seats.length nab, .slice rbb (nmB).off.length nbb, .int .i64 (nmB).sent, .slice rcb (nmB).took.length ncb, .int .i64 (nmB).cash] 77) := ⟨_, rfl⟩
 have hbb : Bx wb gab [.int .i64 (nmB).agency, .slice rab (nmB).seats.length nab, .slice rbb (nmB).off.length nbb, .int .i64 (nmB).sent, .slice rcb (nmB).took.length ncb, .int .i64 (nmB).cash] 77 := by subst hwb hga; exact Bx.new _ [_, _, _, _, _, _] _
 have hSw : Step wn2 wb := by subst hwb; exact Step.alloc _ _
 rw [← hwb, ← hga]
 have HBb := Lib.hid hbb
 replace HAb := Lib.hid (HAb.out.keep (.of_step hSw))
 replace HTx := Lib.hid (HTx.out.trans hSw)
 clear hbb hSw hwb hga
 replace HAa := Lib.hid (HAa.out.keep (.of_step HTx.out)); replace HBa := Lib.hid (HBa.out.step HTx.out); replace HS := Lib.hid (HS.out.trans HTx.out)
 clear HTx
 go_upto_region 5 with (fail)
 obtain ⟨f0, f1, f2, f3, f4, f5⟩ := cells6 HBb.out
 refine wp_region_seqM (fun c d v a w h => by cases d <;> exact h) (kdOf [0, 2] [(6, 77, .agg #[.int .i64 0, .slice none 0 0, .slice none 0 0, .int .i64 0, .slice none 0 0, .int .i64 0])]) [0, 0, 3, 7, 15, 15, 0, 95, 255] [1, 0, 2, 3, 4, 5, 6] [7, 8] (by kernel_rfl) (by kernel_rfl) (fun i T z hi hk => by simp only [List.mem_cons, List.not_mem_nil, or_false] at hi; rcases hi with rfl | rfl | rfl | rfl | rfl | rfl | rfl <;> simp [kdOf] at hk <;> (obtain ⟨rfl, rfl⟩ := hk; first | (show Option.bind _ _ = some _; kernel_rfl) | (refine ⟨_, rfl, fun _ _ => ?_⟩; go_simp))) ?_
 intro Wx hWx
 have f0 := (hWx).kc f0; have f1 := (hWx).kc f1; have f2 := (hWx).kc f2; have f3 := (hWx).kc f3; have f4 := (hWx).kc f4; have f5 := (hWx).kc f5
 repeat (first | (refine run_off rfl rfl (by rfl) ?_; (try simp only [Act.put, zA, zB, zC])) | (refine run_chain_off rfl rfl (by rfl) (K0_mono _) ?_; (try simp only [Act.put, zA, zB, zC])) | ((refine run_want rfl rfl (by rfl) ⟨?_, fun W hW => ?_, ?_⟩; rotate_left; (· (have d0 := hW.kc f0; have d1 := hW.kc f1; have d2 := hW.kc f2; have d3 := hW.kc f3; have d4 := hW.kc f4; have d5 := hW.kc f5; go_simp; (try with_reducible rfl)))); (try simp only [Act.put, zA, zB, zC])))
 clear f0 f1 f2 f3 f4 f5
 refine run_chain rfl rfl (by rfl) (fun Wi hWi K' hK => ?_)
 have HTi := Lib.hid (hWx.trans hWi)
 clear hWx hWi
 go_simp
 refine (Tent_any _).mono ?_
 rintro e wn ⟨vh, rfl, hvh, hSn⟩
 have HVH := Lib.hid (AV.triv hvh)
 have HT := Lib.hid (HTi.out.trans hSn)
 clear HTi hvh
 refine hK _ _ hSn ?_
 clear hSn hK
 (try simp only [Act.put, zA, zB, zC])
 repeat (first | (refine run_off rfl rfl (by rfl) ?_; (try simp only [Act.put, zA, zB, zC])) | (refine run_chain_off rfl rfl (by rfl) (K0_mono _) ?_; (try simp only [Act.put, zA, zB, zC])) | ((refine run_want rfl rfl (by rfl) ⟨?_, fun W hW => ?_, ?_⟩; rotate_left; (· (skip; go_simp; (try with_reducible rfl)))); (try simp only [Act.put, zA, zB, zC])))
 refine run_chain rfl rfl (by rfl) (fun Wi hWi K' hK => ?_)
 have HTi := Lib.hid (HT.out.trans hWi)
 have HVHi := Lib.hid (HVH.out.keep (.of_step hWi))
 clear hWi HT HVH
 go_simp
 refine (Sell_any _ tentH nmB _ _ 0 2 7 3 _ HVHi.out (HAb.out.keep (.of_step HTi.out))).mono ?_
 rintro e wn2 ⟨v6, rfl, hv6, hSn⟩
 rw [nm_g] at hv6 ⊢
 dsimp only at hv6 ⊢
 have HT := Lib.hid (HTi.out.trans hSn)
 clear HVHi HTi
 obtain ⟨x1, x2, x4, rfl, t1, t2, t4⟩ := hv6.book
 obtain ⟨rap5, nap5, rfl⟩ := t1.form
 obtain ⟨rbp5, nbp5, rfl⟩ := t2.form
 obtain ⟨rcp5, ncp5, rfl⟩ := t4.form
 have HAp5 := Lib.hid hv6
 clear t1 t2 t4 hv6
 refine hK _ _ (StepX.of hSn) ?_
 clear hSn hK
 (try simp only [Act.put, zA, zB, zC])
 repeat (first | (refine run_off rfl rfl (by rfl) ?_; (try simp only [Act.put, zA, zB, zC])) | (refine run_chain_off rfl rfl (by rfl) (K0_mono _) ?_; (try simp only [Act.put, zA, zB, zC])) | ((refine run_want rfl rfl (by rfl) ⟨?_, fun W hW => ?_, ?_⟩; rotate_left; (· (skip; go_simp; (try with_reducible rfl)))); (try simp only [Act.put, zA, zB, zC])))
 refine run_alloc rfl rfl (fun W5 gap5 hW5 hg hgb hgN => ?_)
 have hgop5 : ∀ j, j < wn2.heap.size → j = gap5 → j < Wi.heap.size := fun j hj hs => by omega
 (try simp only [Act.put, zA, zB, zC])
 repeat (first | (refine run_off rfl rfl (by rfl) ?_; (try simp only [Act.put, zA, zB, zC])) | (refine run_chain_off rfl rfl (by rfl) (K0_mono _) ?_; (try simp only [Act.put, zA, zB, zC])) | ((refine run_want rfl rfl (by rfl) ⟨?_, fun W hW => ?_, ?_⟩; rotate_left; (· (skip; go_simp; (try with_reducible rfl)))); (try simp only [Act.put, zA, zB, zC])))
 refine run_end (L := [_, _]) rfl (fun W6 hW6 => ?_)
 have hb6 := Bx.step (w := W5) (cs := [_, _, _, _, _, _]) hg hW6
 refine wpl_store (v := .agg #[.int .i64 (noBook).agency, .slice rap5 (noBook).seats.length nap5, .slice rbp5 (noBook).off.length nbp5, .int .i64 (noBook).sent, .slice rcp5 (noBook).took.length ncp5, .int .i64 (noBook).cash]) rfl _ _ _ rfl rfl rfl hb6 (by kernel_rfl) (by simp [Value.cells]) (by simp [Value.cells, Value.oneCell']) [.int .i64 (noBook).agency, .slice rap5 (noBook).seats.length nap5, .slice rbp5 (noBook).off.length nbp5, .int .i64 (noBook).sent, .slice rcp5 (noBook).took.length ncp5, .int .i64 (noBook).cash] rfl (fun wp5 hb7 hw7 => ?_)
 have hkp5 : Keeps (fun j => j = gap5) wn2 wp5 := (Keeps.of_step (hW5.trans hW6)).trans (.wrote hw7 rfl)
 have HTx := Lib.hid (Step.wrote ((HT.out.trans hW5).trans hW6) hw7 hgb)
 replace HAp5 := Lib.hid (AV.triv (AV.later HAp5.out hgop5 hkp5))
 have HBp5 := Lib.hid hb7
 clear hW5 hg hgb hgN hW6 hb6 hb7 hw7 HT
 replace HAa := Lib.hid (HAa.out.keep (.of_step HTx.out)); replace HAb := Lib.hid (HAb.out.keep (.of_step HTx.out)); replace HBa := Lib.hid (HBa.out.step HTx.out); replace HBb := Lib.hid (HBb.out.step HTx.out); replace HS := Lib.hid (HS.out.trans HTx.out)
 clear HTx hgop5 hkp5
 clear HAp5 HBp5
 go_upto_region 6 with (fail)
 obtain ⟨f0, f1, f2, f3, f4, f5⟩ := cells6 HBb.out
 refine wp_region_seqM (fun c d v a w h => by cases d <;> exact h) (kdOf [0, 2] [(6, 77, .agg #[.int .i64 0, .slice none 0 0, .slice none 0 0, .int .i64 0, .slice none 0 0, .int .i64 0])]) [0, 0, 3, 7, 15, 15, 0, 95, 255] [1, 0, 2, 3, 4, 5, 6] [7, 8] (by kernel_rfl) (by kernel_rfl) (fun i T z hi hk => by simp only [List.mem_cons, List.not_mem_nil, or_false] at hi; rcases hi with rfl | rfl | rfl | rfl | rfl | rfl | rfl <;> simp [kdOf] at hk <;> (obtain ⟨rfl, rfl⟩ := hk; first | (show Option.bind _ _ = some _; kernel_rfl) | (refine ⟨_, rfl, fun _ _ => ?_⟩; go_simp))) ?_
 intro Wx hWx
 have f0 := (hWx).kc f0; have f1 := (hWx).kc f1; have f2 := (hWx).kc f2; have f3 := (hWx).kc f3; have f4 := (hWx).kc f4; have f5 := (hWx).kc f5
 repeat (first | (refine run_off rfl rfl (by rfl) ?_; (try simp only [Act.put, zA, zB, zC])) | (refine run_chain_off rfl rfl (by rfl) (K0_mono _) ?_; (try simp only [Act.put, zA, zB, zC])) | ((refine run_want rfl rfl (by rfl) ⟨?_, fun W hW => ?_, ?_⟩; rotate_left; (· (have d0 := hW.kc f0; have d1 := hW.kc f1; have d2 := hW.kc f2; have d3 := hW.kc f3; have d4 := hW.kc f4; have d5 := hW.kc f5; go_simp; (try with_reducible rfl)))); (try simp only [Act.put, zA, zB, zC])))
 clear f0 f1 f2 f3 f4 f5
 refine run_chain rfl rfl (by rfl) (fun Wi hWi K' hK => ?_)
 have HTi := Lib.hid (hWx.trans hWi)
 clear hWx hWi
 go_simp
 refine (Tent_any _).mono ?_
 rintro e wn ⟨vh, rfl, hvh, hSn⟩
 have HVH := Lib.hid (AV.triv hvh)
 have HT := Lib.hid (HTi.out.trans hSn)
 clear HTi hvh
 refine hK _ _ hSn ?_
 clear hSn hK
 (try simp only [Act.put, zA, zB, zC])
 repeat (first | (refine run_off rfl rfl (by rfl) ?_; (try simp only [Act.put, zA, zB, zC])) | (refine run_chain_off rfl rfl (by rfl) (K0_mono _) ?_; (try simp only [Act.put, zA, zB, zC])) | ((refine run_want rfl rfl (by rfl) ⟨?_, fun W hW => ?_, ?_⟩; rotate_left; (· (skip; go_simp; (try with_reducible rfl)))); (try simp only [Act.put, zA, zB, zC])))
 refine run_chain rfl rfl (by rfl) (fun Wi hWi K' hK => ?_)
 have HTi := Lib.hid (HT.out.trans hWi)
 have HVHi := Lib.hid (HVH.out.keep (.of_step hWi))
 clear hWi HT HVH
 go_simp
 refine (Sell_any _ tentH nmB _ _ 0 2 7 5 _ HVHi.out (HAb.out.keep (.of_step HTi.out))).mono ?_
 rintro e wn2 ⟨v6, rfl, hv6, hSn⟩
 rw [nm_h] at hv6 ⊢
 dsimp only at hv6 ⊢
 have HT := Lib.hid (HTi.out.trans hSn)
 clear HVHi HTi
 obtain ⟨x1, x2, x4, rfl, t1, t2, t4⟩ := hv6.book
 obtain ⟨rap6, nap6, rfl⟩ := t1.form
 obtain ⟨rbp6, nbp6, rfl⟩ := t2.form
 obtain ⟨rcp6, ncp6, rfl⟩ := t4.form
 have HAp6 := Lib.hid hv6
 clear t1 t2 t4 hv6
 refine hK _ _ (StepX.of hSn) ?_
 clear hSn hK
 (try simp only [Act.put, zA, zB, zC])
 repeat (first | (refine run_off rfl rfl (by rfl) ?_; (try simp only [Act.put, zA, zB, zC])) | (refine run_chain_off rfl rfl (by rfl) (K0_mono _) ?_; (try simp only [Act.put, zA, zB, zC])) | ((refine run_want rfl rfl (by rfl) ⟨?_, fun W hW => ?_, ?_⟩; rotate_left; (· (skip; go_simp; (try with_reducible rfl)))); (try simp only [Act.put, zA, zB, zC])))
 refine run_alloc rfl rfl (fun W5 gap6 hW5 hg hgb hgN => ?_)
 have hgop6 : ∀ j, j < wn2.heap.size → j = gap6 → j < Wi.heap.size := fun j hj hs => by omega
 (try simp only [Act.put, zA, zB, zC])
 repeat (first | (refine run_off rfl rfl (by rfl) ?_; (try simp only [Act.put, zA, zB, zC])) | (refine run_chain_off rfl rfl (by rfl) (K0_mono _) ?_; (try simp only [Act.put, zA, zB, zC])) | ((refine run_want rfl rfl (by rfl) ⟨?_, fun W hW => ?_, ?_⟩; rotate_left; (· (skip; go_simp; (try with_reducible rfl)))); (try simp only [Act.put, zA, zB, zC])))
 refine run_end (L := [_, _]) rfl (fun W6 hW6 => ?_)
 have hb6 := Bx.step (w := W5) (cs := [_, _, _, _, _, _]) hg hW6
 refine wpl_store (v := .agg #[.int .i64 (noBook).agency, .slice rap6 (noBook).seats.length nap6, .slice rbp6 (noBook).off.length nbp6, .int .i64 (noBook).sent, .slice rcp6 (noBook).took.length ncp6, .int .i64 (noBook).cash]) rfl _ _ _ rfl rfl rfl hb6 (by kernel_rfl) (by simp [Value.cells]) (by simp [Value.cells, Value.oneCell']) [.int .i64 (noBook).agency, .slice rap6 (noBook).seats.length nap6, .slice rbp6 (noBook).off.length nbp6, .int .i64 (noBook).sent, .slice rcp6 (noBook).took.length ncp6, .int .i64 (noBook).cash] rfl (fun wp6 hb7 hw7 => ?_)
 have hkp6 : Keeps (fun j => j = gap6) wn2 wp6 := (Keeps.of_step (hW5.trans hW6)).trans (.wrote hw7 rfl)
 have HTx := Lib.hid (Step.wrote ((HT.out.trans hW5).trans hW6) hw7 hgb)
 replace HAp6 := Lib.hid (AV.triv (AV.later HAp6.out hgop6 hkp6))
 have HBp6 := Lib.hid hb7
 clear hW5 hg hgb hgN hW6 hb6 hb7 hw7 HT
 replace HAa := Lib.hid (HAa.out.keep (.of_step HTx.out)); replace HAb := Lib.hid (HAb.out.keep (.of_step HTx.out)); replace HBa := Lib.hid (HBa.out.step HTx.out); replace HBb := Lib.hid (HBb.out.step HTx.out); replace HS := Lib.hid (HS.out.trans HTx.out)
 clear HTx hgop6 hkp6
 clear HAp6 HBp6
 go_upto_region 7 with (fail)
 obtain ⟨f0, f1, f2, f3, f4, f5⟩ := cells6 HBb.out
 refine wp_region_seqM (fun c d v a w h => by cases d <;> exact h) (kdOf [0, 2] [(6, 77, .agg #[.int .i64 0, .slice none 0 0, .slice none 0 0, .int .i64 0, .slice none 0 0, .int .i64 0])]) [0, 0, 3, 7, 15, 15, 0, 95, 255] [1, 0, 2, 3, 4, 5, 6] [7, 8] (by kernel_rfl) (by kernel_rfl) (fun i T z hi hk => by simp only [List.mem_cons, List.not_mem_nil, or_false] at hi; rcases hi with rfl | rfl | rfl | rfl | rfl | rfl | rfl <;> simp [kdOf] at hk <;> (obtain ⟨rfl, rfl⟩ := hk; first | (show Option.bind _ _ = some _; kernel_rfl) | (refine ⟨_, rfl, fun _ _ => ?_⟩; go_simp))) ?_
 intro Wx hWx
 have f0 := (hWx).kc f0; have f1 := (hWx).kc f1; have f2 := (hWx).kc f2; have f3 := (hWx).kc f3; have f4 := (hWx).kc f4; have f5 := (hWx).kc f5
 repeat (first | (refine run_off rfl rfl (by rfl) ?_; (try simp only [Act.put, zA, zB, zC])) | (refine run_chain_off rfl rfl (by rfl) (K0_mono _) ?_; (try simp only [Act.put, zA, zB, zC])) | ((refine run_want rfl rfl (by rfl) ⟨?_, fun W hW => ?_, ?_⟩; rotate_left; (· (have d0 := hW.kc f0; have d1 := hW.kc f1; have d2 := hW.kc f2; have d3 := hW.kc f3; have d4 := hW.kc f4; have d5 := hW.kc f5; go_simp; (try with_reducible rfl)))); (try simp only [Act.put, zA, zB, zC])))
 clear f0 f1 f2 f3 f4 f5
 refine run_chain rfl rfl (by rfl) (fun Wi hWi K' hK => ?_)
 have HTi := Lib.hid (hWx.trans hWi)
 clear hWx hWi
 go_simp
 refine (Tent_any _).mono ?_
 rintro e wn ⟨vh, rfl, hvh, hSn⟩
 have HVH := Lib.hid (AV.triv hvh)
 have HT := Lib.hid (HTi.out.trans hSn)
 clear HTi hvh
 refine hK _ _ hSn ?_
 clear hSn hK
 (try simp only [Act.put, zA, zB, zC])
 repeat (first | (refine run_off rfl rfl (by rfl) ?_; (try simp only [Act.put, zA, zB, zC])) | (refine run_chain_off rfl rfl (by rfl) (K0_mono _) ?_; (try simp only [Act.put, zA, zB, zC])) | ((refine run_want rfl rfl (by rfl) ⟨?_, fun W hW => ?_, ?_⟩; rotate_left; (· (skip; go_simp; (try with_reducible rfl)))); (try simp only [Act.put, zA, zB, zC])))
 refine run_chain rfl rfl (by rfl) (fun Wi hWi K' hK => ?_)
 have HTi := Lib.hid (HT.out.trans hWi)
 have HVHi := Lib.hid (HVH.out.keep (.of_step hWi))
 clear hWi HT HVH
 go_simp
 refine (Sell_any _ tentH nmB _ _ 0 2 7 11 _ HVHi.out (HAb.out.keep (.of_step HTi.out))).mono ?_
 rintro e wn2 ⟨v6, rfl, hv6, hSn⟩
 rw [nm_i] at hv6 ⊢
 dsimp only at hv6 ⊢
 have HT := Lib.hid (HTi.out.trans hSn)
 clear HVHi HTi
 obtain ⟨x1, x2, x4, rfl, t1, t2, t4⟩ := hv6.book
 obtain ⟨rap7, nap7, rfl⟩ := t1.form
 obtain ⟨rbp7, nbp7, rfl⟩ := t2.form
 obtain ⟨rcp7, ncp7, rfl⟩ := t4.form
 have HAp7 := Lib.hid hv6
 clear t1 t2 t4 hv6
 refine hK _ _ (StepX.of hSn) ?_
 clear hSn hK
 (try simp only [Act.put, zA, zB, zC])
 repeat (first | (refine run_off rfl rfl (by rfl) ?_; (try simp only [Act.put, zA, zB, zC])) | (refine run_chain_off rfl rfl (by rfl) (K0_mono _) ?_; (try simp only [Act.put, zA, zB, zC])) | ((refine run_want rfl rfl (by rfl) ⟨?_, fun W hW => ?_, ?_⟩; rotate_left; (· (skip; go_simp; (try with_reducible rfl)))); (try simp only [Act.put, zA, zB, zC])))
 refine run_alloc rfl rfl (fun W5 gap7 hW5 hg hgb hgN => ?_)
 have hgop7 : ∀ j, j < wn2.heap.size → j = gap7 → j < Wi.heap.size := fun j hj hs => by omega
 (try simp only [Act.put, zA, zB, zC])
 repeat (first | (refine run_off rfl rfl (by rfl) ?_; (try simp only [Act.put, zA, zB, zC])) | (refine run_chain_off rfl rfl (by rfl) (K0_mono _) ?_; (try simp only [Act.put, zA, zB, zC])) | ((refine run_want rfl rfl (by rfl) ⟨?_, fun W hW => ?_, ?_⟩; rotate_left; (· (skip; go_simp; (try with_reducible rfl)))); (try simp only [Act.put, zA, zB, zC])))
 refine run_end (L := [_, _]) rfl (fun W6 hW6 => ?_)
 have hb6 := Bx.step (w := W5) (cs := [_, _, _, _, _, _]) hg hW6
 refine wpl_store (v := .agg #[.int .i64 (noBook).agency, .slice rap7 (noBook).seats.length nap7, .slice rbp7 (noBook).off.length nbp7, .int .i64 (noBook).sent, .slice rcp7 (noBook).took.length ncp7, .int .i64 (noBook).cash]) rfl _ _ _ rfl rfl rfl hb6 (by kernel_rfl) (by simp [Value.cells]) (by simp [Value.cells, Value.oneCell']) [.int .i64 (noBook).agency, .slice rap7 (noBook).seats.length nap7, .slice rbp7 (noBook).off.length nbp7, .int .i64 (noBook).sent, .slice rcp7 (noBook).took.length ncp7, .int .i64 (noBook).cash] rfl (fun wp7 hb7 hw7 => ?_)
 have hkp7 : Keeps (fun j => j = gap7) wn2 wp7 := (Keeps.of_step (hW5.trans hW6)).trans (.wrote hw7 rfl)
 have HTx := Lib.hid (Step.wrote ((HT.out.trans hW5).trans hW6) hw7 hgb)
 replace HAp7 := Lib.hid (AV.triv (AV.later HAp7.out hgop7 hkp7))
 have HBp7 := Lib.hid hb7
 clear hW5 hg hgb hgN hW6 hb6 hb7 hw7 HT
 replace HAa := Lib.hid (HAa.out.keep (.of_step HTx.out)); replace HAb := Lib.hid (HAb.out.keep (.of_step HTx.out)); replace HBa := Lib.hid (HBa.out.step HTx.out); replace HBb := Lib.hid (HBb.out.step HTx.out); replace HS := Lib.hid (HS.out.trans HTx.out)
 clear HTx hgop7 hkp7
 clear HAp7 HBp7
 go_upto_region 8 with (fail)
 obtain ⟨f0, f1, f2, f3, f4, f5⟩ := cells6 HBa.out
 refine wp_region_seqM (fun c d v a w h => by cases d <;> exact h) (kdOf [0, 3] [(2, 3, .tuple #[.int IntKind.i64 3, .int IntKind.i64 4]), (8, 77, .agg #[.int .i64 0, .slice none 0 0, .slice none 0 0, .int .i64 0, .slice none 0 0, .int .i64 0]), (9, 86, .agg #[.int .i64 0, .int .i64 0, .int .i64 0, .int .i64 0, .slice none 0 0])]) [0, 0, 0, 7, 15, 31, 31, 31, 0, 0, 831, 1919, 4095] [1, 0, 2, 3, 4, 5, 6, 7, 8, 9] [10, 11, 12] (by kernel_rfl) (by kernel_rfl) (fun i T z hi hk => by simp only [List.mem_cons, List.not_mem_nil, or_false] at hi; rcases hi with rfl | rfl | rfl | rfl | rfl | rfl | rfl | rfl | rfl | rfl <;> simp [kdOf] at hk <;> (obtain ⟨rfl, rfl⟩ := hk; first | (show Option.bind _ _ = some _; kernel_rfl) | (refine ⟨_, rfl, fun _ _ => ?_⟩; go_simp))) ?_
 intro Wx hWx
 have f0 := (hWx).kc f0; have f1 := (hWx).kc f1; have f2 := (hWx).kc f2; have f3 := (hWx).kc f3; have f4 := (hWx).kc f4; have f5 := (hWx).kc f5
 repeat (first | (refine run_off rfl rfl (by rfl) ?_; (try simp only [Act.put, zA, zB, zC])) | (refine run_chain_off rfl rfl (by rfl) (K0_mono _) ?_; (try simp only [Act.put, zA, zB, zC])) | ((refine run_want rfl rfl (by rfl) ⟨?_, fun W hW => ?_, ?_⟩; rotate_left; (· (have d0 := hW.kc f0; have d1 := hW.kc f1; have d2 := hW.kc f2; have d3 := hW.kc f3; have d4 := hW.kc f4; have d5 := hW.kc f5; go_simp; (try with_reducible rfl)))); (try simp only [Act.put, zA, zB, zC])))
 clear f0 f1 f2 f3 f4 f5
 refine run_chain rfl rfl (by rfl) (fun Wi hWi K' hK => ?_)
 have HTi := Lib.hid (hWx.trans hWi)
 clear hWx hWi
 go_simp
 refine (Tent_any _).mono ?_
 rintro e wn ⟨vh, rfl, hvh, hSn⟩
 have HVH := Lib.hid (AV.triv hvh)
 have HT := Lib.hid (HTi.out.trans hSn)
 clear HTi hvh
 refine hK _ _ hSn ?_
 clear hSn hK
 (try simp only [Act.put, zA, zB, zC])
 repeat (first | (refine run_off rfl rfl (by rfl) ?_; (try simp only [Act.put, zA, zB, zC])) | (refine run_chain_off rfl rfl (by rfl) (K0_mono _) ?_; (try simp only [Act.put, zA, zB, zC])) | ((refine run_want rfl rfl (by rfl) ⟨?_, fun W hW => ?_, ?_⟩; rotate_left; (· (skip; go_simp; (try with_reducible rfl)))); (try simp only [Act.put, zA, zB, zC])))
 refine run_consts rfl rfl (fun Wk gS hWk hgS hgSb hgSN => ?_)
 have HSL := Lib.hid (SL.bx_ints (S := fun _ => False) (l := [3, 4]) (show Bx Wk gS [.int .i64 3, .int .i64 4] 3 from hgS) (fun h => h) 2 (by decide) (by decide))
 replace HT := Lib.hid (HT.out.trans hWk)
 replace HVH := Lib.hid (HVH.out.keep (.of_step hWk))
 clear hWk hgS hgSb hgSN
 (try simp only [Act.put, zA, zB, zC])
 repeat (first | (refine run_off rfl rfl (by rfl) ?_; (try simp only [Act.put, zA, zB, zC])) | (refine run_chain_off rfl rfl (by rfl) (K0_mono _) ?_; (try simp only [Act.put, zA, zB, zC])) | ((refine run_want rfl rfl (by rfl) ⟨?_, fun W hW => ?_, ?_⟩; rotate_left; (· (skip; go_simp; (try with_reducible rfl)))); (try simp only [Act.put, zA, zB, zC])))
 refine run_chain rfl rfl (by rfl) (fun Wi hWi K' hK => ?_)
 have HTi := Lib.hid (HT.out.trans hWi)
 have HVHi := Lib.hid (HVH.out.keep (.of_step hWi))
 replace HSL := Lib.hid (HSL.out.keep (.of_step hWi))
 clear hWi HT HVH
 go_simp
 refine (Give_any _ _ tentH tentB _ _ _ 1 0 [3, 4] _ HVHi.out (HAa.out.keep (.of_step HTi.out)) HSL.out (by decide)).mono ?_
 rintro e wn2 ⟨v6, m6, rfl, hv6, hm6, hSn⟩
 rw [tent_give] at hv6 hm6 ⊢
 dsimp only [bookOf, actR, restOf] at hv6 hm6
 simp only [bookOf, actR]
 have HT := Lib.hid (HTi.out.trans hSn)
 clear HVHi HTi HSL
 obtain ⟨x1, x2, x4, rfl, t1, t2, t4⟩ := hv6.book
 obtain ⟨rac, nac, rfl⟩ := t1.form
 obtain ⟨rbc, nbc, rfl⟩ := t2.form
 obtain ⟨rcc, ncc, rfl⟩ := t4.form
 have hm6 : AV _ wn2 m6 nmM := hm6
 obtain ⟨y4, rfl, t5⟩ := hm6.message
 obtain ⟨qm, km, rfl⟩ := t5.form
 have HAc := Lib.hid hv6
 have HAm := Lib.hid hm6
 clear t1 t2 t4 t5 hv6 hm6
 refine hK _ _ hSn ?_
 clear hSn hK
 (try simp only [Act.put, zA, zB, zC])
 repeat (first | (refine run_off rfl rfl (by rfl) ?_; (try simp only [Act.put, zA, zB, zC])) | (refine run_chain_off rfl rfl (by rfl) (K0_mono _) ?_; (try simp only [Act.put, zA, zB, zC])) | ((refine run_want rfl rfl (by rfl) ⟨?_, fun W hW => ?_, ?_⟩; rotate_left; (· (skip; go_simp; (try with_reducible rfl)))); (try simp only [Act.put, zA, zB, zC])))
 refine run_alloc rfl rfl (fun W5 gac hW5 hg hgb hgN => ?_)
 have hgo1 : ∀ j, j < wn2.heap.size → j = gac → j < Wi.heap.size := fun j hj hs => by omega
 (try simp only [Act.put, zA, zB, zC])
 repeat (first | (refine run_off rfl rfl (by rfl) ?_; (try simp only [Act.put, zA, zB, zC])) | (refine run_chain_off rfl rfl (by rfl) (K0_mono _) ?_; (try simp only [Act.put, zA, zB, zC])) | ((refine run_want rfl rfl (by rfl) ⟨?_, fun W hW => ?_, ?_⟩; rotate_left; (· (skip; go_simp; (try with_reducible rfl)))); (try simp only [Act.put, zA, zB, zC])))
 refine run_alloc rfl rfl (fun W5' gam hW5' hg' hgb' hgN' => ?_)
 (try simp only [Act.put, zA, zB, zC])
 repeat (first | (refine run_off rfl rfl (by rfl) ?_; (try simp only [Act.put, zA, zB, zC])) | (refine run_chain_off rfl rfl (by rfl) (K0_mono _) ?_; (try simp only [Act.put, zA, zB, zC])) | ((refine run_want rfl rfl (by rfl) ⟨?_, fun W hW => ?_, ?_⟩; rotate_left; (· (skip; go_simp; (try with_reducible rfl)))); (try simp only [Act.put, zA, zB, zC])))
 refine run_end (L := [_, _, _]) rfl (fun W6 hW6 => ?_)
 have hb6 := Bx.step (w := W5) (cs := [_, _, _, _, _, _]) hg (hW5'.trans hW6)
 have hb7 := Bx.step (w := W5') (cs := [_, _, _, _, _]) hg' hW6
 have hne : gam ≠ gac := hgN'.2
 have hgm1 := hgN'.1
 refine wpl_store (v := .agg #[.int .i64 (tentE).agency, .slice rac (tentE).seats.length nac, .slice rbc (tentE).off.length nbc, .int .i64 (tentE).sent, .slice rcc (tentE).took.length ncc, .int .i64 (tentE).cash]) rfl _ _ _ rfl rfl rfl hb6 (by kernel_rfl) (by simp [Value.cells]) (by simp [Value.cells, Value.oneCell']) [.int .i64 (tentE).agency, .slice rac (tentE).seats.length nac, .slice rbc (tentE).off.length nbc, .int .i64 (tentE).sent, .slice rcc (tentE).took.length ncc, .int .i64 (tentE).cash] rfl (fun w7 hb8 hw8 => ?_)
 have hb7' := hb7.keep hw8.keeps hne
 refine wpl_store (v := .agg #[.int .i64 nmM.frm, .int .i64 nmM.dst, .int .i64 nmM.number, .int .i64 nmM.shw, .slice qm nmM.seats.length km]) rfl _ _ _ rfl rfl rfl hb7' (by kernel_rfl) (by simp [Value.cells]) (by simp [Value.cells, Value.oneCell']) [.int .i64 nmM.frm, .int .i64 nmM.dst, .int .i64 nmM.number, .int .i64 nmM.shw, .slice qm nmM.seats.length km] rfl (fun wc hb9 hw9 => ?_)
 have hk : Keeps (fun j => j = gac ∨ j = gam) wn2 wc := ((Keeps.of_step ((hW5.trans hW5').trans hW6)).trans (.wrote hw8 (.inl rfl))).trans (.wrote hw9 (.inr rfl))
 have hgo : ∀ j, j < wn2.heap.size → (j = gac ∨ j = gam) → j < Wi.heap.size := fun j hj hs => by
  rcases hs with hs | hs
  ·exact hgo1 j hj hs
  ·omega
 have HTx := Lib.hid (Step.wrote (Step.wrote (((HT.out.trans hW5).trans hW5').trans hW6) hw8 hgb) hw9 hgb')
 replace HAc := Lib.hid (AV.triv (AV.later HAc.out hgo hk))
 replace HAm := Lib.hid (AV.triv (AV.later HAm.out hgo hk))
 have HBc := Lib.hid (hb8.keep hw9.keeps (Ne.symm hne))
 have HBm := Lib.hid hb9
 clear hW5 hg hgb hgN hW5' hg' hgb' hgN' hW6 hb6 hb7 hne hgm1 hb8 hw8 hb7' hb9 hw9 hk hgo hgo1 HT
 replace HAa := Lib.hid (HAa.out.keep (.of_step HTx.out)); replace HAb := Lib.hid (HAb.out.keep (.of_step HTx.out)); replace HBa := Lib.hid (HBa.out.step HTx.out); replace HBb := Lib.hid (HBb.out.step HTx.out); replace HS := Lib.hid (HS.out.trans HTx.out)
 clear HTx
 go_upto_region 9 with (fail)
 obtain ⟨f0, f1, f2, f3, f4, f5⟩ := cells6 HBb.out
 obtain ⟨m0, m1, m2, m3, m4⟩ := cells5 HBm.out
 refine wp_region_seqM (fun c d v a w h => by cases d <;> exact h) (kdOf [0, 3] [(7, 77, .agg #[.int .i64 0, .slice none 0 0, .slice none 0 0, .int .i64 0, .slice none 0 0, .int .i64 0])]) [0, 0, 0, 7, 15, 31, 31, 0, 191, 511] [1, 2, 0, 3, 4, 5, 6, 7] [8, 9] (by kernel_rfl) (by kernel_rfl) (fun i T z hi hk => by simp only [List.mem_cons, List.not_mem_nil, or_false] at hi; rcases hi with rfl | rfl | rfl | rfl | rfl | rfl | rfl | rfl <;> simp [kdOf] at hk <;> (obtain ⟨rfl, rfl⟩ := hk; first | (show Option.bind _ _ = some _; kernel_rfl) | (refine ⟨_, rfl, fun _ _ => ?_⟩; go_simp))) ?_
 intro Wx hWx
 have f0 := (hWx).kc f0; have f1 := (hWx).kc f1; have f2 := (hWx).kc f2; have f3 := (hWx).kc f3; have f4 := (hWx).kc f4; have f5 := (hWx).kc f5; have m0 := (hWx).kc m0; have m1 := (hWx).kc m1; have m2 := (hWx).kc m2; have m3 := (hWx).kc m3; have m4 := (hWx).kc m4
 repeat (first | (refine run_off rfl rfl (by rfl) ?_; (try simp only [Act.put, zA, zB, zC])) | (refine run_chain_off rfl rfl (by rfl) (K0_mono _) ?_; (try simp only [Act.put, zA, zB, zC])) | ((refine run_want rfl rfl (by rfl) ⟨?_, fun W hW => ?_, ?_⟩; rotate_left; (· (have d0 := hW.kc f0; have d1 := hW.kc f1; have d2 := hW.kc f2; have d3 := hW.kc f3; have d4 := hW.kc f4; have d5 := hW.kc f5; have d6 := hW.kc m0; have d7 := hW.kc m1; have d8 := hW.kc m2; have d9 := hW.kc m3; have d10 := hW.kc m4; go_simp; (try with_reducible rfl)))); (try simp only [Act.put, zA, zB, zC])))
 clear f0 f1 f2 f3 f4 f5 m0 m1 m2 m3 m4
 refine run_chain rfl rfl (by rfl) (fun Wi hWi K' hK => ?_)
 have HTi := Lib.hid (hWx.trans hWi)
 clear hWx hWi
 go_simp
 refine (Tent_any _).mono ?_
 rintro e wn ⟨vh, rfl, hvh, hSn⟩
 have HVH := Lib.hid (AV.triv hvh)
 have HT := Lib.hid (HTi.out.trans hSn)
 clear HTi hvh
 refine hK _ _ hSn ?_
 clear hSn hK
 (try simp only [Act.put, zA, zB, zC])
 repeat (first | (refine run_off rfl rfl (by rfl) ?_; (try simp only [Act.put, zA, zB, zC])) | (refine run_chain_off rfl rfl (by rfl) (K0_mono _) ?_; (try simp only [Act.put, zA, zB, zC])) | ((refine run_want rfl rfl (by rfl) ⟨?_, fun W hW => ?_, ?_⟩; rotate_left; (· (skip; go_simp; (try with_reducible rfl)))); (try simp only [Act.put, zA, zB, zC])))
 refine run_chain rfl rfl (by rfl) (fun Wi hWi K' hK => ?_)
 have HTi := Lib.hid (HT.out.trans hWi)
 have HVHi := Lib.hid (HVH.out.keep (.of_step hWi))
 clear hWi HT HVH
 go_simp
 refine (Take_any _ _ tentH nmB _ _ _ nmM _ HVHi.out (HAb.out.keep (.of_step HTi.out)) (HAm.out.keep (.of_step HTi.out))).mono ?_
 rintro e wn2 ⟨v6, rfl, hv6, hSn⟩
 rw [nm_k] at hv6 ⊢
 dsimp only at hv6 ⊢
 have HT := Lib.hid (HTi.out.trans hSn)
 clear HVHi HTi
 obtain ⟨x1, x2, x4, rfl, t1, t2, t4⟩ := hv6.book
 obtain ⟨rad, nad, rfl⟩ := t1.form
 obtain ⟨rbd, nbd, rfl⟩ := t2.form
 obtain ⟨rcd, ncd, rfl⟩ := t4.form
 have HAd := Lib.hid hv6
 clear t1 t2 t4 hv6
 refine hK _ _ (StepX.of hSn) ?_
 clear hSn hK
 (try simp only [Act.put, zA, zB, zC])
 repeat (first | (refine run_off rfl rfl (by rfl) ?_; (try simp only [Act.put, zA, zB, zC])) | (refine run_chain_off rfl rfl (by rfl) (K0_mono _) ?_; (try simp only [Act.put, zA, zB, zC])) | ((refine run_want rfl rfl (by rfl) ⟨?_, fun W hW => ?_, ?_⟩; rotate_left; (· (skip; go_simp; (try with_reducible rfl)))); (try simp only [Act.put, zA, zB, zC])))
 refine run_alloc rfl rfl (fun W5 gad hW5 hg hgb hgN => ?_)
 have hgod : ∀ j, j < wn2.heap.size → j = gad → j < Wi.heap.size := fun j hj hs => by omega
 (try simp only [Act.put, zA, zB, zC])
 repeat (first | (refine run_off rfl rfl (by rfl) ?_; (try simp only [Act.put, zA, zB, zC])) | (refine run_chain_off rfl rfl (by rfl) (K0_mono _) ?_; (try simp only [Act.put, zA, zB, zC])) | ((refine run_want rfl rfl (by rfl) ⟨?_, fun W hW => ?_, ?_⟩; rotate_left; (· (skip; go_simp; (try with_reducible rfl)))); (try simp only [Act.put, zA, zB, zC])))
 refine run_end (L := [_, _]) rfl (fun W6 hW6 => ?_)
 have hb6 := Bx.step (w := W5) (cs := [_, _, _, _, _, _]) hg hW6
 refine wpl_store (v := .agg #[.int .i64 (nmD).agency, .slice rad (nmD).seats.length nad, .slice rbd (nmD).off.length nbd, .int .i64 (nmD).sent, .slice rcd (nmD).took.length ncd, .int .i64 (nmD).cash]) rfl _ _ _ rfl rfl rfl hb6 (by kernel_rfl) (by simp [Value.cells]) (by simp [Value.cells, Value.oneCell']) [.int .i64 (nmD).agency, .slice rad (nmD).seats.length nad, .slice rbd (nmD).off.length nbd, .int .i64 (nmD).sent, .slice rcd (nmD).took.length ncd, .int .i64 (nmD).cash] rfl (fun wd hb7 hw7 => ?_)
 have hkd : Keeps (fun j => j = gad) wn2 wd := (Keeps.of_step (hW5.trans hW6)).trans (.wrote hw7 rfl)
 have HTx := Lib.hid (Step.wrote ((HT.out.trans hW5).trans hW6) hw7 hgb)
 replace HAd := Lib.hid (AV.triv (AV.later HAd.out hgod hkd))
 have HBd := Lib.hid hb7
 clear hW5 hg hgb hgN hW6 hb6 hb7 hw7 HT
 replace HAa := Lib.hid (HAa.out.keep (.of_step HTx.out)); replace HAb := Lib.hid (HAb.out.keep (.of_step HTx.out)); replace HAc := Lib.hid (HAc.out.keep (.of_step HTx.out)); replace HAm := Lib.hid (HAm.out.keep (.of_step HTx.out)); replace HBa := Lib.hid (HBa.out.step HTx.out); replace HBb := Lib.hid (HBb.out.step HTx.out); replace HBc := Lib.hid (HBc.out.step HTx.out); replace HBm := Lib.hid (HBm.out.step HTx.out); replace HS := Lib.hid (HS.out.trans HTx.out)
 clear HTx hgod hkd
 go_upto_region 10 with (fail)
 obtain ⟨f0, f1, f2, f3, f4, f5⟩ := cells6 HBd.out
 obtain ⟨m0, m1, m2, m3, m4⟩ := cells5 HBm.out
 refine wp_region_seqM (fun c d v a w h => by cases d <;> exact h) (kdOf [0, 3] [(7, 77, .agg #[.int .i64 0, .slice none 0 0, .slice none 0 0, .int .i64 0, .slice none 0 0, .int .i64 0])]) [0, 0, 0, 7, 15, 31, 31, 0, 191, 511] [1, 2, 0, 3, 4, 5, 6, 7] [8, 9] (by kernel_rfl) (by kernel_rfl) (fun i T z hi hk => by simp only [List.mem_cons, List.not_mem_nil, or_false] at hi; rcases hi with rfl | rfl | rfl | rfl | rfl | rfl | rfl | rfl <;> simp [kdOf] at hk <;> (obtain ⟨rfl, rfl⟩ := hk; first | (show Option.bind _ _ = some _; kernel_rfl) | (refine ⟨_, rfl, fun _ _ => ?_⟩; go_simp))) ?_
 intro Wx hWx
 have f0 := (hWx).kc f0; have f1 := (hWx).kc f1; have f2 := (hWx).kc f2; have f3 := (hWx).kc f3; have f4 := (hWx).kc f4; have f5 := (hWx).kc f5; have m0 := (hWx).kc m0; have m1 := (hWx).kc m1; have m2 := (hWx).kc m2; have m3 := (hWx).kc m3; have m4 := (hWx).kc m4
 repeat (first | (refine run_off rfl rfl (by rfl) ?_; (try simp only [Act.put, zA, zB, zC])) | (refine run_chain_off rfl rfl (by rfl) (K0_mono _) ?_; (try simp only [Act.put, zA, zB, zC])) | ((refine run_want rfl rfl (by rfl) ⟨?_, fun W hW => ?_, ?_⟩; rotate_left; (· (have d0 := hW.kc f0; have d1 := hW.kc f1; have d2 := hW.kc f2; have d3 := hW.kc f3; have d4 := hW.kc f4; have d5 := hW.kc f5; have d6 := hW.kc m0; have d7 := hW.kc m1; have d8 := hW.kc m2; have d9 := hW.kc m3; have d10 := hW.kc m4; go_simp; (try with_reducible rfl)))); (try simp only [Act.put, zA, zB, zC])))
 clear f0 f1 f2 f3 f4 f5 m0 m1 m2 m3 m4
 refine run_chain rfl rfl (by rfl) (fun Wi hWi K' hK => ?_)
 have HTi := Lib.hid (hWx.trans hWi)
 clear hWx hWi
 go_simp
 refine (Tent_any _).mono ?_
 rintro e wn ⟨vh, rfl, hvh, hSn⟩
 have HVH := Lib.hid (AV.triv hvh)
 have HT := Lib.hid (HTi.out.trans hSn)
 clear HTi hvh
 refine hK _ _ hSn ?_
 clear hSn hK
 (try simp only [Act.put, zA, zB, zC])
 repeat (first | (refine run_off rfl rfl (by rfl) ?_; (try simp only [Act.put, zA, zB, zC])) | (refine run_chain_off rfl rfl (by rfl) (K0_mono _) ?_; (try simp only [Act.put, zA, zB, zC])) | ((refine run_want rfl rfl (by rfl) ⟨?_, fun W hW => ?_, ?_⟩; rotate_left; (· (skip; go_simp; (try with_reducible rfl)))); (try simp only [Act.put, zA, zB, zC])))
 refine run_chain rfl rfl (by rfl) (fun Wi hWi K' hK => ?_)
 have HTi := Lib.hid (HT.out.trans hWi)
 have HVHi := Lib.hid (HVH.out.keep (.of_step hWi))
 clear hWi HT HVH
 go_simp
 refine (Take_any _ _ tentH nmD _ _ _ nmM _ HVHi.out (HAd.out.keep (.of_step HTi.out)) (HAm.out.keep (.of_step HTi.out))).mono ?_
 rintro e wn2 ⟨v6, rfl, hv6, hSn⟩
 rw [nm_n] at hv6 ⊢
 dsimp only at hv6 ⊢
 have HT := Lib.hid (HTi.out.trans hSn)
 clear HVHi HTi
 obtain ⟨x1, x2, x4, rfl, t1, t2, t4⟩ := hv6.book
 obtain ⟨raq10, naq10, rfl⟩ := t1.form
 obtain ⟨rbq10, nbq10, rfl⟩ := t2.form
 obtain ⟨rcq10, ncq10, rfl⟩ := t4.form
 have HAq10 := Lib.hid hv6
 clear t1 t2 t4 hv6
 refine hK _ _ (StepX.of hSn) ?_
 clear hSn hK
 (try simp only [Act.put, zA, zB, zC])
 repeat (first | (refine run_off rfl rfl (by rfl) ?_; (try simp only [Act.put, zA, zB, zC])) | (refine run_chain_off rfl rfl (by rfl) (K0_mono _) ?_; (try simp only [Act.put, zA, zB, zC])) | ((refine run_want rfl rfl (by rfl) ⟨?_, fun W hW => ?_, ?_⟩; rotate_left; (· (skip; go_simp; (try with_reducible rfl)))); (try simp only [Act.put, zA, zB, zC])))
 refine run_alloc rfl rfl (fun W5 gaq10 hW5 hg hgb hgN => ?_)
 have hgoq10 : ∀ j, j < wn2.heap.size → j = gaq10 → j < Wi.heap.size := fun j hj hs => by omega
 (try simp only [Act.put, zA, zB, zC])
 repeat (first | (refine run_off rfl rfl (by rfl) ?_; (try simp only [Act.put, zA, zB, zC])) | (refine run_chain_off rfl rfl (by rfl) (K0_mono _) ?_; (try simp only [Act.put, zA, zB, zC])) | ((refine run_want rfl rfl (by rfl) ⟨?_, fun W hW => ?_, ?_⟩; rotate_left; (· (skip; go_simp; (try with_reducible rfl)))); (try simp only [Act.put, zA, zB, zC])))
 refine run_end (L := [_, _]) rfl (fun W6 hW6 => ?_)
 have hb6 := Bx.step (w := W5) (cs := [_, _, _, _, _, _]) hg hW6
 refine wpl_store (v := .agg #[.int .i64 (noBook).agency, .slice raq10 (noBook).seats.length naq10, .slice rbq10 (noBook).off.length nbq10, .int .i64 (noBook).sent, .slice rcq10 (noBook).took.length ncq10, .int .i64 (noBook).cash]) rfl _ _ _ rfl rfl rfl hb6 (by kernel_rfl) (by simp [Value.cells]) (by simp [Value.cells, Value.oneCell']) [.int .i64 (noBook).agency, .slice raq10 (noBook).seats.length naq10, .slice rbq10 (noBook).off.length nbq10, .int .i64 (noBook).sent, .slice rcq10 (noBook).took.length ncq10, .int .i64 (noBook).cash] rfl (fun wq10 hb7 hw7 => ?_)
 have hkq10 : Keeps (fun j => j = gaq10) wn2 wq10 := (Keeps.of_step (hW5.trans hW6)).trans (.wrote hw7 rfl)
 have HTx := Lib.hid (Step.wrote ((HT.out.trans hW5).trans hW6) hw7 hgb)
 replace HAq10 := Lib.hid (AV.triv (AV.later HAq10.out hgoq10 hkq10))
 have HBq10 := Lib.hid hb7
 clear hW5 hg hgb hgN hW6 hb6 hb7 hw7 HT
 replace HAa := Lib.hid (HAa.out.keep (.of_step HTx.out)); replace HAb := Lib.hid (HAb.out.keep (.of_step HTx.out)); replace HAc := Lib.hid (HAc.out.keep (.of_step HTx.out)); replace HAm := Lib.hid (HAm.out.keep (.of_step HTx.out)); replace HAd := Lib.hid (HAd.out.keep (.of_step HTx.out)); replace HBa := Lib.hid (HBa.out.step HTx.out); replace HBb := Lib.hid (HBb.out.step HTx.out); replace HBc := Lib.hid (HBc.out.step HTx.out); replace HBm := Lib.hid (HBm.out.step HTx.out); replace HBd := Lib.hid (HBd.out.step HTx.out); replace HS := Lib.hid (HS.out.trans HTx.out)
 clear HTx hgoq10 hkq10
 clear HAq10 HBq10
 clear HAb HBb HAm HBm
 go_upto_region 11 with (fail)
 obtain ⟨d1, d2, d4, hde, s1, _, _⟩ := HAc.out.book
 cases hde
 obtain ⟨pr, cr, rb, ro, hpe, _, _, hpr, hcr, _⟩ := s1.rows
 injection hpe with hpe1 hpe2 hpe3
 clear hpe2 hpe3
 subst hpe1
 obtain rfl := hpr (by decide)
 obtain ⟨u0, hu0, hs0⟩ := hcr 0 (by decide)
 obtain ⟨pu, cu, rfl⟩ := hs0.form
 simp only [Nat.add_zero] at hu0
 have HS0 := Lib.hid hs0
 have hix0 : (0 : Int) ≤ 0 ∧ (0 : Int) < ((tentE).seats.length : Int) := by decide
 clear s1 hpr hcr hs0
 obtain ⟨f0, f1, f2, f3, f4, f5⟩ := cells6 HBc.out
 have d1 : (tentE.sent != 1) = false := by decide
 go_wp2_with fail
 refine (ints_any _ ((tentE).seats[0]'(by decide)) [0, 0, 0, -1, -1] _ _ _ (HS0.out.keep (.alloc _ _)) (SL.bx_ints (l := [0, 0, 0, -1, -1]) (Bx.new _ _ _) (fun h => h) 5 (by decide) (by decide))).mono ?_
 rintro e wn ⟨rfl, hSm⟩
 rw [show intsB ((tentE).seats[0]'(by decide)) [0, 0, 0, -1, -1] = true from by kernel_rfl]
 have HTx := Lib.hid (Step.trans (Step.alloc _ _) hSm)
 clear hSm HS0 hu0 hix0
 clear f0 f1 f2 f3 f4 f5 d1
 replace HAa := Lib.hid (HAa.out.keep (.of_step HTx.out)); replace HAc := Lib.hid (HAc.out.keep (.of_step HTx.out)); replace HAd := Lib.hid (HAd.out.keep (.of_step HTx.out)); replace HBa := Lib.hid (HBa.out.step HTx.out); replace HBc := Lib.hid (HBc.out.step HTx.out); replace HBd := Lib.hid (HBd.out.step HTx.out); replace HS := Lib.hid (HS.out.trans HTx.out)
 clear HTx
 obtain ⟨d1, d2, d4, hde, s1, _, _⟩ := HAd.out.book
 cases hde
 obtain ⟨pr, cr, rb, ro, hpe, _, _, hpr, hcr, _⟩ := s1.rows
 injection hpe with hpe1 hpe2 hpe3
 clear hpe2 hpe3
 subst hpe1
 obtain rfl := hpr (by decide)
 obtain ⟨u0, hu0, hs0⟩ := hcr 0 (by decide)
 obtain ⟨pu, cu, rfl⟩ := hs0.form
 simp only [Nat.add_zero] at hu0
 have HS0 := Lib.hid hs0
 have hix0 : (0 : Int) ≤ 0 ∧ (0 : Int) < ((nmD).seats.length : Int) := by decide
 clear s1 hpr hcr hs0
 obtain ⟨f0, f1, f2, f3, f4, f5⟩ := cells6 HBd.out
 go_wp2_with fail
 refine (ints_any _ ((nmD).seats[0]'(by decide)) [-1, -1, -1, 0, 0] _ _ _ (HS0.out.keep (.alloc _ _)) (SL.bx_ints (l := [-1, -1, -1, 0, 0]) (Bx.new _ _ _) (fun h => h) 5 (by decide) (by decide))).mono ?_
 rintro e wn ⟨rfl, hSm⟩
 rw [show intsB ((nmD).seats[0]'(by decide)) [-1, -1, -1, 0, 0] = true from by kernel_rfl]
 have HTx := Lib.hid (Step.trans (Step.alloc _ _) hSm)
 clear hSm HS0 hu0 hix0
 clear f0 f1 f2 f3 f4 f5
 replace HAa := Lib.hid (HAa.out.keep (.of_step HTx.out)); replace HAc := Lib.hid (HAc.out.keep (.of_step HTx.out)); replace HAd := Lib.hid (HAd.out.keep (.of_step HTx.out)); replace HBa := Lib.hid (HBa.out.step HTx.out); replace HBc := Lib.hid (HBc.out.step HTx.out); replace HBd := Lib.hid (HBd.out.step HTx.out); replace HS := Lib.hid (HS.out.trans HTx.out)
 clear HTx
 clear HAc HBc HAd HBd
 go_upto_region 13 with (fail)
 obtain ⟨f0, f1, f2, f3, f4, f5⟩ := cells6 HBa.out
 refine wp_region_seqM (fun c d v a w h => by cases d <;> exact h) (kdOf [0, 2] [(6, 77, .agg #[.int .i64 0, .slice none 0 0, .slice none 0 0, .int .i64 0, .slice none 0 0, .int .i64 0])]) [0, 0, 3, 7, 15, 15, 0, 95, 255] [1, 0, 2, 3, 4, 5, 6] [7, 8] (by kernel_rfl) (by kernel_rfl) (fun i T z hi hk => by simp only [List.mem_cons, List.not_mem_nil, or_false] at hi; rcases hi with rfl | rfl | rfl | rfl | rfl | rfl | rfl <;> simp [kdOf] at hk <;> (obtain ⟨rfl, rfl⟩ := hk; first | (show Option.bind _ _ = some _; kernel_rfl) | (refine ⟨_, rfl, fun _ _ => ?_⟩; go_simp))) ?_
 intro Wx hWx
 have f0 := (hWx).kc f0; have f1 := (hWx).kc f1; have f2 := (hWx).kc f2; have f3 := (hWx).kc f3; have f4 := (hWx).kc f4; have f5 := (hWx).kc f5
 repeat (first | (refine run_off rfl rfl (by rfl) ?_; (try simp only [Act.put, zA, zB, zC])) | (refine run_chain_off rfl rfl (by rfl) (K0_mono _) ?_; (try simp only [Act.put, zA, zB, zC])) | ((refine run_want rfl rfl (by rfl) ⟨?_, fun W hW => ?_, ?_⟩; rotate_left; (· (have d0 := hW.kc f0; have d1 := hW.kc f1; have d2 := hW.kc f2; have d3 := hW.kc f3; have d4 := hW.kc f4; have d5 := hW.kc f5; go_simp; (try with_reducible rfl)))); (try simp only [Act.put, zA, zB, zC])))
 clear f0 f1 f2 f3 f4 f5
 refine run_chain rfl rfl (by rfl) (fun Wi hWi K' hK => ?_)
 have HTi := Lib.hid (hWx.trans hWi)
 clear hWx hWi
 go_simp
 refine (Tent_any _).mono ?_
 rintro e wn ⟨vh, rfl, hvh, hSn⟩
 have HVH := Lib.hid (AV.triv hvh)
 have HT := Lib.hid (HTi.out.trans hSn)
 clear HTi hvh
 refine hK _ _ hSn ?_
 clear hSn hK
 (try simp only [Act.put, zA, zB, zC])
 repeat (first | (refine run_off rfl rfl (by rfl) ?_; (try simp only [Act.put, zA, zB, zC])) | (refine run_chain_off rfl rfl (by rfl) (K0_mono _) ?_; (try simp only [Act.put, zA, zB, zC])) | ((refine run_want rfl rfl (by rfl) ⟨?_, fun W hW => ?_, ?_⟩; rotate_left; (· (skip; go_simp; (try with_reducible rfl)))); (try simp only [Act.put, zA, zB, zC])))
 refine run_chain rfl rfl (by rfl) (fun Wi hWi K' hK => ?_)
 have HTi := Lib.hid (HT.out.trans hWi)
 have HVHi := Lib.hid (HVH.out.keep (.of_step hWi))
 clear hWi HT HVH
 go_simp
 refine (Sell_any _ tentH tentB _ _ 0 2 7 3 _ HVHi.out (HAa.out.keep (.of_step HTi.out))).mono ?_
 rintro e wn2 ⟨v6, rfl, hv6, hSn⟩
 rw [tent_sell] at hv6 ⊢
 dsimp only at hv6 ⊢
 have HT := Lib.hid (HTi.out.trans hSn)
 clear HVHi HTi
 obtain ⟨x1, x2, x4, rfl, t1, t2, t4⟩ := hv6.book
 obtain ⟨rao, nao, rfl⟩ := t1.form
 obtain ⟨rbo, nbo, rfl⟩ := t2.form
 obtain ⟨rco, nco, rfl⟩ := t4.form
 have HAo := Lib.hid hv6
 clear t1 t2 t4 hv6
 refine hK _ _ (StepX.of hSn) ?_
 clear hSn hK
 (try simp only [Act.put, zA, zB, zC])
 repeat (first | (refine run_off rfl rfl (by rfl) ?_; (try simp only [Act.put, zA, zB, zC])) | (refine run_chain_off rfl rfl (by rfl) (K0_mono _) ?_; (try simp only [Act.put, zA, zB, zC])) | ((refine run_want rfl rfl (by rfl) ⟨?_, fun W hW => ?_, ?_⟩; rotate_left; (· (skip; go_simp; (try with_reducible rfl)))); (try simp only [Act.put, zA, zB, zC])))
 refine run_alloc rfl rfl (fun W5 gao hW5 hg hgb hgN => ?_)
 have hgoo : ∀ j, j < wn2.heap.size → j = gao → j < Wi.heap.size := fun j hj hs => by omega
 (try simp only [Act.put, zA, zB, zC])
 repeat (first | (refine run_off rfl rfl (by rfl) ?_; (try simp only [Act.put, zA, zB, zC])) | (refine run_chain_off rfl rfl (by rfl) (K0_mono _) ?_; (try simp only [Act.put, zA, zB, zC])) | ((refine run_want rfl rfl (by rfl) ⟨?_, fun W hW => ?_, ?_⟩; rotate_left; (· (skip; go_simp; (try with_reducible rfl)))); (try simp only [Act.put, zA, zB, zC])))
 refine run_end (L := [_, _]) rfl (fun W6 hW6 => ?_)
 have hb6 := Bx.step (w := W5) (cs := [_, _, _, _, _, _]) hg hW6
 refine wpl_store (v := .agg #[.int .i64 (tentC).agency, .slice rao (tentC).seats.length nao, .slice rbo (tentC).off.length nbo, .int .i64 (tentC).sent, .slice rco (tentC).took.length nco, .int .i64 (tentC).cash]) rfl _ _ _ rfl rfl rfl hb6 (by kernel_rfl) (by simp [Value.cells]) (by simp [Value.cells, Value.oneCell']) [.int .i64 (tentC).agency, .slice rao (tentC).seats.length nao, .slice rbo (tentC).off.length nbo, .int .i64 (tentC).sent, .slice rco (tentC).took.length nco, .int .i64 (tentC).cash] rfl (fun wo hb7 hw7 => ?_)
 have hko : Keeps (fun j => j = gao) wn2 wo := (Keeps.of_step (hW5.trans hW6)).trans (.wrote hw7 rfl)
 have HTx := Lib.hid (Step.wrote ((HT.out.trans hW5).trans hW6) hw7 hgb)
 have HRo := Lib.hid (AV.later HAo.out hgoo hko)
 have HGo := Lib.hid (Nat.le_trans HS.out.size hgb)
 replace HAo := Lib.hid (AV.triv (AV.later HAo.out hgoo hko))
 have HBo := Lib.hid hb7
 clear hW5 hg hgb hgN hW6 hb6 hb7 hw7 HT
 replace HAa := Lib.hid (HAa.out.keep (.of_step HTx.out)); replace HBa := Lib.hid (HBa.out.step HTx.out); replace HS := Lib.hid (HS.out.trans HTx.out)
 clear HTx hgoo hko
 go_upto_region 14 with (fail)
 obtain ⟨f0, f1, f2, f3, f4, f5⟩ := cells6 HBo.out
 refine wp_region_seqM (fun c d v a w h => by cases d <;> exact h) (kdOf [0, 2] [(6, 77, .agg #[.int .i64 0, .slice none 0 0, .slice none 0 0, .int .i64 0, .slice none 0 0, .int .i64 0])]) [0, 0, 3, 7, 15, 15, 0, 95, 255] [1, 0, 2, 3, 4, 5, 6] [7, 8] (by kernel_rfl) (by kernel_rfl) (fun i T z hi hk => by simp only [List.mem_cons, List.not_mem_nil, or_false] at hi; rcases hi with rfl | rfl | rfl | rfl | rfl | rfl | rfl <;> simp [kdOf] at hk <;> (obtain ⟨rfl, rfl⟩ := hk; first | (show Option.bind _ _ = some _; kernel_rfl) | (refine ⟨_, rfl, fun _ _ => ?_⟩; go_simp))) ?_
 intro Wx hWx
 have f0 := (hWx).kc f0; have f1 := (hWx).kc f1; have f2 := (hWx).kc f2; have f3 := (hWx).kc f3; have f4 := (hWx).kc f4; have f5 := (hWx).kc f5
 repeat (first | (refine run_off rfl rfl (by rfl) ?_; (try simp only [Act.put, zA, zB, zC])) | (refine run_chain_off rfl rfl (by rfl) (K0_mono _) ?_; (try simp only [Act.put, zA, zB, zC])) | ((refine run_want rfl rfl (by rfl) ⟨?_, fun W hW => ?_, ?_⟩; rotate_left; (· (have d0 := hW.kc f0; have d1 := hW.kc f1; have d2 := hW.kc f2; have d3 := hW.kc f3; have d4 := hW.kc f4; have d5 := hW.kc f5; go_simp; (try with_reducible rfl)))); (try simp only [Act.put, zA, zB, zC])))
 clear f0 f1 f2 f3 f4 f5
 refine run_chain rfl rfl (by rfl) (fun Wi hWi K' hK => ?_)
 have HTi := Lib.hid (hWx.trans hWi)
 clear hWx hWi
 go_simp
 refine (Tent_any _).mono ?_
 rintro e wn ⟨vh, rfl, hvh, hSn⟩
 have HVH := Lib.hid (AV.triv hvh)
 have HT := Lib.hid (HTi.out.trans hSn)
 clear HTi hvh
 refine hK _ _ hSn ?_
 clear hSn hK
 (try simp only [Act.put, zA, zB, zC])
 repeat (first | (refine run_off rfl rfl (by rfl) ?_; (try simp only [Act.put, zA, zB, zC])) | (refine run_chain_off rfl rfl (by rfl) (K0_mono _) ?_; (try simp only [Act.put, zA, zB, zC])) | ((refine run_want rfl rfl (by rfl) ⟨?_, fun W hW => ?_, ?_⟩; rotate_left; (· (skip; go_simp; (try with_reducible rfl)))); (try simp only [Act.put, zA, zB, zC])))
 refine run_chain rfl rfl (by rfl) (fun Wi hWi K' hK => ?_)
 have HTi := Lib.hid (HT.out.trans hWi)
 have HVHi := Lib.hid (HVH.out.keep (.of_step hWi))
 clear hWi HT HVH
 go_simp
 refine (Sell_any _ tentH tentC _ _ 0 3 8 3 _ HVHi.out (HAo.out.keep (.of_step HTi.out))).mono ?_
 rintro e wn2 ⟨v6, rfl, hv6, hSn⟩
 rw [nm_two] at hv6 ⊢
 dsimp only at hv6 ⊢
 have HT := Lib.hid (HTi.out.trans hSn)
 clear HVHi HTi
 obtain ⟨x1, x2, x4, rfl, t1, t2, t4⟩ := hv6.book
 obtain ⟨rat, nat, rfl⟩ := t1.form
 obtain ⟨rbt, nbt, rfl⟩ := t2.form
 obtain ⟨rct, nct, rfl⟩ := t4.form
 have HAt := Lib.hid hv6
 clear t1 t2 t4 hv6
 refine hK _ _ (StepX.of hSn) ?_
 clear hSn hK
 (try simp only [Act.put, zA, zB, zC])
 repeat (first | (refine run_off rfl rfl (by rfl) ?_; (try simp only [Act.put, zA, zB, zC])) | (refine run_chain_off rfl rfl (by rfl) (K0_mono _) ?_; (try simp only [Act.put, zA, zB, zC])) | ((refine run_want rfl rfl (by rfl) ⟨?_, fun W hW => ?_, ?_⟩; rotate_left; (· (skip; go_simp; (try with_reducible rfl)))); (try simp only [Act.put, zA, zB, zC])))
 refine run_alloc rfl rfl (fun W5 gat hW5 hg hgb hgN => ?_)
 have hgot : ∀ j, j < wn2.heap.size → j = gat → j < Wi.heap.size := fun j hj hs => by omega
 (try simp only [Act.put, zA, zB, zC])
 repeat (first | (refine run_off rfl rfl (by rfl) ?_; (try simp only [Act.put, zA, zB, zC])) | (refine run_chain_off rfl rfl (by rfl) (K0_mono _) ?_; (try simp only [Act.put, zA, zB, zC])) | ((refine run_want rfl rfl (by rfl) ⟨?_, fun W hW => ?_, ?_⟩; rotate_left; (· (skip; go_simp; (try with_reducible rfl)))); (try simp only [Act.put, zA, zB, zC])))
 refine run_end (L := [_, _]) rfl (fun W6 hW6 => ?_)
 have hb6 := Bx.step (w := W5) (cs := [_, _, _, _, _, _]) hg hW6
 refine wpl_store (v := .agg #[.int .i64 (nmT).agency, .slice rat (nmT).seats.length nat, .slice rbt (nmT).off.length nbt, .int .i64 (nmT).sent, .slice rct (nmT).took.length nct, .int .i64 (nmT).cash]) rfl _ _ _ rfl rfl rfl hb6 (by kernel_rfl) (by simp [Value.cells]) (by simp [Value.cells, Value.oneCell']) [.int .i64 (nmT).agency, .slice rat (nmT).seats.length nat, .slice rbt (nmT).off.length nbt, .int .i64 (nmT).sent, .slice rct (nmT).took.length nct, .int .i64 (nmT).cash] rfl (fun wt hb7 hw7 => ?_)
 have hkt : Keeps (fun j => j = gat) wn2 wt := (Keeps.of_step (hW5.trans hW6)).trans (.wrote hw7 rfl)
 have HTx := Lib.hid (Step.wrote ((HT.out.trans hW5).trans hW6) hw7 hgb)
 replace HAt := Lib.hid (AV.triv (AV.later HAt.out hgot hkt))
 have HBt := Lib.hid hb7
 clear hW5 hg hgb hgN hW6 hb6 hb7 hw7 HT
 replace HAa := Lib.hid (HAa.out.keep (.of_step HTx.out)); replace HAo := Lib.hid (HAo.out.keep (.of_step HTx.out)); replace HRo := Lib.hid (HRo.out.keep (.of_step HTx.out)); replace HBa := Lib.hid (HBa.out.step HTx.out); replace HBo := Lib.hid (HBo.out.step HTx.out); replace HS := Lib.hid (HS.out.trans HTx.out)
 clear HTx hgot hkt
 go_upto_region 15 with (fail)
 obtain ⟨f0, f1, f2, f3, f4, f5⟩ := cells6 HBt.out
 refine wp_region_seqM (fun c d v a w h => by cases d <;> exact h) (kdOf [0, 2] [(7, 77, .agg #[.int .i64 0, .slice none 0 0, .slice none 0 0, .int .i64 0, .slice none 0 0, .int .i64 0])]) [0, 0, 3, 7, 15, 15, 15, 0, 159, 447, 1023] [1, 0, 2, 3, 4, 5, 6, 7] [8, 9, 10] (by kernel_rfl) (by kernel_rfl) (fun i T z hi hk => by simp only [List.mem_cons, List.not_mem_nil, or_false] at hi; rcases hi with rfl | rfl | rfl | rfl | rfl | rfl | rfl | rfl <;> simp [kdOf] at hk <;> (obtain ⟨rfl, rfl⟩ := hk; first | (show Option.bind _ _ = some _; kernel_rfl) | (refine ⟨_, rfl, fun _ _ => ?_⟩; go_simp))) ?_
 intro Wx hWx
 have f0 := (hWx).kc f0; have f1 := (hWx).kc f1; have f2 := (hWx).kc f2; have f3 := (hWx).kc f3; have f4 := (hWx).kc f4; have f5 := (hWx).kc f5
 repeat (first | (refine run_off rfl rfl (by rfl) ?_; (try simp only [Act.put, zA, zB, zC])) | (refine run_chain_off rfl rfl (by rfl) (K0_mono _) ?_; (try simp only [Act.put, zA, zB, zC])) | ((refine run_want rfl rfl (by rfl) ⟨?_, fun W hW => ?_, ?_⟩; rotate_left; (· (have d0 := hW.kc f0; have d1 := hW.kc f1; have d2 := hW.kc f2; have d3 := hW.kc f3; have d4 := hW.kc f4; have d5 := hW.kc f5; go_simp; (try with_reducible rfl)))); (try simp only [Act.put, zA, zB, zC])))
 clear f0 f1 f2 f3 f4 f5
 refine run_chain rfl rfl (by rfl) (fun Wi hWi K' hK => ?_)
 have HTi := Lib.hid (hWx.trans hWi)
 clear hWx hWi
 go_simp
 refine (Tent_any _).mono ?_
 rintro e wn ⟨vh, rfl, hvh, hSn⟩
 have HVH := Lib.hid (AV.triv hvh)
 have HT := Lib.hid (HTi.out.trans hSn)
 clear HTi hvh
 refine hK _ _ hSn ?_
 clear hSn hK
 (try simp only [Act.put, zA, zB, zC])
 repeat (first | (refine run_off rfl rfl (by rfl) ?_; (try simp only [Act.put, zA, zB, zC])) | (refine run_chain_off rfl rfl (by rfl) (K0_mono _) ?_; (try simp only [Act.put, zA, zB, zC])) | ((refine run_want rfl rfl (by rfl) ⟨?_, fun W hW => ?_, ?_⟩; rotate_left; (· (skip; go_simp; (try with_reducible rfl)))); (try simp only [Act.put, zA, zB, zC])))
 refine run_chain rfl rfl (by rfl) (fun Wi hWi K' hK => ?_)
 have HTi := Lib.hid (HT.out.trans hWi)
 have HVHi := Lib.hid (HVH.out.keep (.of_step hWi))
 clear hWi HT HVH
 go_simp
 refine (Lose_any _ tentH nmT _ _ 0 4 _ HVHi.out (HAt.out.keep (.of_step HTi.out))).mono ?_
 rintro e wn2 ⟨v6, l6, rfl, hv6, hl6, hSn⟩
 rw [nm_x] at hv6 hl6 ⊢
 dsimp only [bookOf, actR, restOf] at hv6 hl6
 simp only [bookOf, actR]
 obtain ⟨pl, kl, rfl⟩ : ∃ p c, l6 = .slice p 2 c := hl6.form
 have HLx := Lib.hid hl6
 clear hl6
 have HT := Lib.hid (HTi.out.trans hSn)
 clear HVHi HTi
 obtain ⟨x1, x2, x4, rfl, t1, t2, t4⟩ := hv6.book
 obtain ⟨rax, nax, rfl⟩ := t1.form
 obtain ⟨rbx, nbx, rfl⟩ := t2.form
 obtain ⟨rcx, ncx, rfl⟩ := t4.form
 have HAx := Lib.hid hv6
 clear t1 t2 t4 hv6
 refine hK _ _ (StepX.of hSn) ?_
 clear hSn hK
 (try simp only [Act.put, zA, zB, zC])
 repeat (first | (refine run_off rfl rfl (by rfl) ?_; (try simp only [Act.put, zA, zB, zC])) | (refine run_chain_off rfl rfl (by rfl) (K0_mono _) ?_; (try simp only [Act.put, zA, zB, zC])) | ((refine run_want rfl rfl (by rfl) ⟨?_, fun W hW => ?_, ?_⟩; rotate_left; (· (skip; go_simp; (try with_reducible rfl)))); (try simp only [Act.put, zA, zB, zC])))
 refine run_alloc rfl rfl (fun W5 gax hW5 hg hgb hgN => ?_)
 have hgox : ∀ j, j < wn2.heap.size → j = gax → j < Wi.heap.size := fun j hj hs => by omega
 (try simp only [Act.put, zA, zB, zC])
 repeat (first | (refine run_off rfl rfl (by rfl) ?_; (try simp only [Act.put, zA, zB, zC])) | (refine run_chain_off rfl rfl (by rfl) (K0_mono _) ?_; (try simp only [Act.put, zA, zB, zC])) | ((refine run_want rfl rfl (by rfl) ⟨?_, fun W hW => ?_, ?_⟩; rotate_left; (· (skip; go_simp; (try with_reducible rfl)))); (try simp only [Act.put, zA, zB, zC])))
 refine run_end (L := [_, _, _]) rfl (fun W6 hW6 => ?_)
 have hb6 := Bx.step (w := W5) (cs := [_, _, _, _, _, _]) hg hW6
 refine wpl_store (v := .agg #[.int .i64 (tentD).agency, .slice rax (tentD).seats.length nax, .slice rbx (tentD).off.length nbx, .int .i64 (tentD).sent, .slice rcx (tentD).took.length ncx, .int .i64 (tentD).cash]) rfl _ _ _ rfl rfl rfl hb6 (by kernel_rfl) (by simp [Value.cells]) (by simp [Value.cells, Value.oneCell']) [.int .i64 (tentD).agency, .slice rax (tentD).seats.length nax, .slice rbx (tentD).off.length nbx, .int .i64 (tentD).sent, .slice rcx (tentD).took.length ncx, .int .i64 (tentD).cash] rfl (fun wx hb7 hw7 => ?_)
 have hkx : Keeps (fun j => j = gax) wn2 wx := (Keeps.of_step (hW5.trans hW6)).trans (.wrote hw7 rfl)
 have HTx := Lib.hid (Step.wrote ((HT.out.trans hW5).trans hW6) hw7 hgb)
 replace HAx := Lib.hid (AV.triv (AV.later HAx.out hgox hkx))
 have HBx := Lib.hid hb7
 clear hW5 hg hgb hgN hW6 hb6 hb7 hw7 HT
 replace HLx := Lib.hid ((SL.later HLx.out hgox hkx).weak (T := fun _ => False) fun _ _ h => h.elim)
 replace HAa := Lib.hid (HAa.out.keep (.of_step HTx.out)); replace HAo := Lib.hid (HAo.out.keep (.of_step HTx.out)); replace HRo := Lib.hid (HRo.out.keep (.of_step HTx.out)); replace HAt := Lib.hid (HAt.out.keep (.of_step HTx.out)); replace HBa := Lib.hid (HBa.out.step HTx.out); replace HBo := Lib.hid (HBo.out.step HTx.out); replace HBt := Lib.hid (HBt.out.step HTx.out); replace HS := Lib.hid (HS.out.trans HTx.out)
 clear HTx hgox hkx
 clear HAt HBt
 go_upto_region 16 with (fail)
 obtain ⟨f0, f1, f2, f3, f4, f5⟩ := cells6 HBa.out
 refine wp_region_seqM (fun c d v a w h => by cases d <;> exact h) (kdOf [0, 2] []) [0, 0, 3, 7, 15, 15, 31, 127] [1, 0, 2, 3, 4, 5, 6, 7] [] (by kernel_rfl) (by kernel_rfl) (fun i T z hi hk => by simp [kdOf] at hk <;> (try (split at hk <;> cases hk))) ?_
 intro Wx hWx
 have f0 := (hWx).kc f0; have f1 := (hWx).kc f1; have f2 := (hWx).kc f2; have f3 := (hWx).kc f3; have f4 := (hWx).kc f4; have f5 := (hWx).kc f5
 repeat (first | (refine run_off rfl rfl (by rfl) ?_; (try simp only [Act.put, zA, zB, zC])) | (refine run_chain_off rfl rfl (by rfl) (K0_mono _) ?_; (try simp only [Act.put, zA, zB, zC])) | ((refine run_want rfl rfl (by rfl) ⟨?_, fun W hW => ?_, ?_⟩; rotate_left; (· (have d0 := hW.kc f0; have d1 := hW.kc f1; have d2 := hW.kc f2; have d3 := hW.kc f3; have d4 := hW.kc f4; have d5 := hW.kc f5; go_simp; (try with_reducible rfl)))); (try simp only [Act.put, zA, zB, zC])))
 clear f0 f1 f2 f3 f4 f5
 refine run_chain rfl rfl (by rfl) (fun Wi hWi K' hK => ?_)
 have HTi := Lib.hid (hWx.trans hWi)
 clear hWx hWi
 go_simp
 refine (Tent_any _).mono ?_
 rintro e wn ⟨vh, rfl, hvh, hSn⟩
 have HVH := Lib.hid (AV.triv hvh)
 have HT := Lib.hid (HTi.out.trans hSn)
 clear HTi hvh
 refine hK _ _ hSn ?_
 clear hSn hK
 (try simp only [Act.put, zA, zB, zC])
 repeat (first | (refine run_off rfl rfl (by rfl) ?_; (try simp only [Act.put, zA, zB, zC])) | (refine run_chain_off rfl rfl (by rfl) (K0_mono _) ?_; (try simp only [Act.put, zA, zB, zC])) | ((refine run_want rfl rfl (by rfl) ⟨?_, fun W hW => ?_, ?_⟩; rotate_left; (· (skip; go_simp; (try with_reducible rfl)))); (try simp only [Act.put, zA, zB, zC])))
 refine run_chain rfl rfl (by rfl) (fun Wi hWi K' hK => ?_)
 have HTi := Lib.hid (HT.out.trans hWi)
 have HVHi := Lib.hid (HVH.out.keep (.of_step hWi))
 clear hWi HT HVH
 go_simp
 refine (Free_any _ tentH tentB _ _ 1 0 4 _ HVHi.out (HAa.out.keep (.of_step HTi.out))).mono ?_
 rintro e wn2 ⟨l6, rfl, hl6, hSn⟩
 rw [nm_l] at hl6 ⊢
 dsimp only [bookOf, actR, restOf] at hl6
 simp only [bookOf, actR]
 obtain ⟨pf, kf, rfl⟩ : ∃ p c, l6 = .slice p 1 c := hl6.form
 have HLf := Lib.hid (hl6.weak (T := fun _ => False) fun _ _ h => h.elim)
 refine hK _ _ hSn ?_
 have HT := Lib.hid (HTi.out.trans hSn)
 clear hSn hK HTi HVHi hl6
 (try simp only [Act.put, zA, zB, zC])
 repeat (first | (refine run_off rfl rfl (by rfl) ?_; (try simp only [Act.put, zA, zB, zC])) | (refine run_chain_off rfl rfl (by rfl) (K0_mono _) ?_; (try simp only [Act.put, zA, zB, zC])) | ((refine run_want rfl rfl (by rfl) ⟨?_, fun W hW => ?_, ?_⟩; rotate_left; (· (skip; go_simp; (try with_reducible rfl)))); (try simp only [Act.put, zA, zB, zC])))
 refine run_end (L := []) rfl (fun W6 hW6 => ?_)
 have HTx := Lib.hid (HT.out.trans hW6)
 replace HLf := Lib.hid (HLf.out.keep (.of_step hW6))
 clear HT hW6
 replace HAa := Lib.hid (HAa.out.keep (.of_step HTx.out)); replace HAo := Lib.hid (HAo.out.keep (.of_step HTx.out)); replace HRo := Lib.hid (HRo.out.keep (.of_step HTx.out)); replace HAx := Lib.hid (HAx.out.keep (.of_step HTx.out)); replace HLx := Lib.hid (HLx.out.keep (.of_step HTx.out)); replace HBa := Lib.hid (HBa.out.step HTx.out); replace HBo := Lib.hid (HBo.out.step HTx.out); replace HBx := Lib.hid (HBx.out.step HTx.out); replace HS := Lib.hid (HS.out.trans HTx.out)
 clear HTx
 go_upto_region 17 with (fail)
 obtain ⟨p9, c9, bl, ol, hpe, _, _, hpl, hcl, _⟩ := HLx.out.moves
 injection hpe with hpe1 hpe2 hpe3
 clear hpe2 hpe3
 subst hpe1
 obtain rfl := hpl (by decide)
 obtain ⟨m0, m1, m2⟩ := hcl 0 (by decide)
 obtain ⟨n0, n1, n2⟩ := hcl 1 (by decide)
 have m0 : _ = some (Value.int .i64 2) := m0
 have m1 : _ = some (Value.int .i64 1) := m1
 have m2 : _ = some (Value.int .i64 2) := m2
 have n0 : _ = some (Value.int .i64 3) := n0
 have n1 : _ = some (Value.int .i64 (-1)) := n1
 have n2 : _ = some (Value.int .i64 (-1)) := n2
 simp only [Nat.zero_mul, Nat.one_mul, Nat.add_zero] at m0 m1 m2 n0 n1 n2
 have n1' := n1
 have n2' := n2
 simp only [Nat.add_assoc, Nat.reduceAdd] at n1' n2'
 clear hpl hcl
 have hix0 : (0 : Int) ≤ 0 ∧ (0 : Int) < 2 := by decide
 have hix1 : (0 : Int) ≤ 1 ∧ (1 : Int) < 2 := by decide
 have hv0 : ∀ w, (binOp .neq 97 (.agg #[.int .i64 2, .int .i64 1, .int .i64 2]) (.agg #[.int .i64 2, .int .i64 1, .int .i64 2])).run Tryz.prog w = .ok (.bool false) w := fun _ => by kernel_rfl
 have hv1 : ∀ w, (binOp .neq 97 (.agg #[.int .i64 3, .int .i64 (-1), .int .i64 (-1)]) (.agg #[.int .i64 3, .int .i64 (-1), .int .i64 (-1)])).run Tryz.prog w = .ok (.bool false) w := fun _ => by kernel_rfl
 obtain ⟨f0, f1, f2, f3, f4, f5⟩ := cells6 HBx.out
 have d1 : (tentD.cash != 20) = false := by decide
 go_wp2_with fail
 refine (ints_any _ [0] [0] _ _ _ (HLf.out.keep (.alloc _ _)) (SL.bx_ints (l := [0]) (Bx.new _ _ _) (fun h => h) 1 (by decide) (by decide))).mono ?_
 rintro e wn ⟨rfl, hSm⟩
 rw [show intsB [0] [0] = true from by decide]
 have HTx := Lib.hid (Step.trans (Step.alloc _ _) hSm)
 clear hSm m0 m1 m2 n0 n1 n2 n1' n2' hix0 hix1 hv0 hv1 f0 f1 f2 f3 f4 f5 d1
 clear HLx HLf
 replace HAa := Lib.hid (HAa.out.keep (.of_step HTx.out)); replace HAo := Lib.hid (HAo.out.keep (.of_step HTx.out)); replace HRo := Lib.hid (HRo.out.keep (.of_step HTx.out)); replace HAx := Lib.hid (HAx.out.keep (.of_step HTx.out)); replace HBa := Lib.hid (HBa.out.step HTx.out); replace HBo := Lib.hid (HBo.out.step HTx.out); replace HBx := Lib.hid (HBx.out.step HTx.out); replace HS := Lib.hid (HS.out.trans HTx.out)
 clear HTx
 go_upto_region 19 with (fail)
 obtain ⟨f0, f1, f2, f3, f4, f5⟩ := cells6 HBo.out
 refine wp_region_seqM (fun c d v a w h => by cases d <;> exact h) (kdOf [0, 2] [(6, 77, .agg #[.int .i64 0, .slice none 0 0, .slice none 0 0, .int .i64 0, .slice none 0 0, .int .i64 0])]) [0, 0, 3, 7, 15, 15, 0, 95, 255] [1, 0, 2, 3, 4, 5, 6] [7, 8] (by kernel_rfl) (by kernel_rfl) (fun i T z hi hk => by simp only [List.mem_cons, List.not_mem_nil, or_false] at hi; rcases hi with rfl | rfl | rfl | rfl | rfl | rfl | rfl <;> simp [kdOf] at hk <;> (obtain ⟨rfl, rfl⟩ := hk; first | (show Option.bind _ _ = some _; kernel_rfl) | (refine ⟨_, rfl, fun _ _ => ?_⟩; go_simp))) ?_
 intro Wx hWx
 have f0 := (hWx).kc f0; have f1 := (hWx).kc f1; have f2 := (hWx).kc f2; have f3 := (hWx).kc f3; have f4 := (hWx).kc f4; have f5 := (hWx).kc f5
 repeat (first | (refine run_off rfl rfl (by rfl) ?_; (try simp only [Act.put, zA, zB, zC])) | (refine run_chain_off rfl rfl (by rfl) (K0_mono _) ?_; (try simp only [Act.put, zA, zB, zC])) | ((refine run_want rfl rfl (by rfl) ⟨?_, fun W hW => ?_, ?_⟩; rotate_left; (· (have d0 := hW.kc f0; have d1 := hW.kc f1; have d2 := hW.kc f2; have d3 := hW.kc f3; have d4 := hW.kc f4; have d5 := hW.kc f5; go_simp; (try with_reducible rfl)))); (try simp only [Act.put, zA, zB, zC])))
 clear f0 f1 f2 f3 f4 f5
 refine run_chain rfl rfl (by rfl) (fun Wi hWi K' hK => ?_)
 have HTi := Lib.hid (hWx.trans hWi)
 clear hWx hWi
 go_simp
 refine (Tent_any _).mono ?_
 rintro e wn ⟨vh, rfl, hvh, hSn⟩
 have HVH := Lib.hid (AV.triv hvh)
 have HT := Lib.hid (HTi.out.trans hSn)
 clear HTi hvh
 refine hK _ _ hSn ?_
 clear hSn hK
 (try simp only [Act.put, zA, zB, zC])
 repeat (first | (refine run_off rfl rfl (by rfl) ?_; (try simp only [Act.put, zA, zB, zC])) | (refine run_chain_off rfl rfl (by rfl) (K0_mono _) ?_; (try simp only [Act.put, zA, zB, zC])) | ((refine run_want rfl rfl (by rfl) ⟨?_, fun W hW => ?_, ?_⟩; rotate_left; (· (skip; go_simp; (try with_reducible rfl)))); (try simp only [Act.put, zA, zB, zC])))
 refine run_chain rfl rfl (by rfl) (fun Wi hWi K' hK => ?_)
 have HTi := Lib.hid (HT.out.trans hWi)
 have HVHi := Lib.hid (HVH.out.keep (.of_step hWi))
 clear hWi HT HVH
 go_simp
 refine (Sell_any _ tentH tentC _ _ 0 2 9 3 _ HVHi.out (HAo.out.keep (.of_step HTi.out))).mono ?_
 rintro e wn2 ⟨v6, rfl, hv6, hSn⟩
 rw [nm_s] at hv6 ⊢
 dsimp only at hv6 ⊢
 have HT := Lib.hid (HTi.out.trans hSn)
 clear HVHi HTi
 obtain ⟨x1, x2, x4, rfl, t1, t2, t4⟩ := hv6.book
 obtain ⟨raq19, naq19, rfl⟩ := t1.form
 obtain ⟨rbq19, nbq19, rfl⟩ := t2.form
 obtain ⟨rcq19, ncq19, rfl⟩ := t4.form
 have HAq19 := Lib.hid hv6
 clear t1 t2 t4 hv6
 refine hK _ _ (StepX.of hSn) ?_
 clear hSn hK
 (try simp only [Act.put, zA, zB, zC])
 repeat (first | (refine run_off rfl rfl (by rfl) ?_; (try simp only [Act.put, zA, zB, zC])) | (refine run_chain_off rfl rfl (by rfl) (K0_mono _) ?_; (try simp only [Act.put, zA, zB, zC])) | ((refine run_want rfl rfl (by rfl) ⟨?_, fun W hW => ?_, ?_⟩; rotate_left; (· (skip; go_simp; (try with_reducible rfl)))); (try simp only [Act.put, zA, zB, zC])))
 refine run_alloc rfl rfl (fun W5 gaq19 hW5 hg hgb hgN => ?_)
 have hgoq19 : ∀ j, j < wn2.heap.size → j = gaq19 → j < Wi.heap.size := fun j hj hs => by omega
 (try simp only [Act.put, zA, zB, zC])
 repeat (first | (refine run_off rfl rfl (by rfl) ?_; (try simp only [Act.put, zA, zB, zC])) | (refine run_chain_off rfl rfl (by rfl) (K0_mono _) ?_; (try simp only [Act.put, zA, zB, zC])) | ((refine run_want rfl rfl (by rfl) ⟨?_, fun W hW => ?_, ?_⟩; rotate_left; (· (skip; go_simp; (try with_reducible rfl)))); (try simp only [Act.put, zA, zB, zC])))
 refine run_end (L := [_, _]) rfl (fun W6 hW6 => ?_)
 have hb6 := Bx.step (w := W5) (cs := [_, _, _, _, _, _]) hg hW6
 refine wpl_store (v := .agg #[.int .i64 (noBook).agency, .slice raq19 (noBook).seats.length naq19, .slice rbq19 (noBook).off.length nbq19, .int .i64 (noBook).sent, .slice rcq19 (noBook).took.length ncq19, .int .i64 (noBook).cash]) rfl _ _ _ rfl rfl rfl hb6 (by kernel_rfl) (by simp [Value.cells]) (by simp [Value.cells, Value.oneCell']) [.int .i64 (noBook).agency, .slice raq19 (noBook).seats.length naq19, .slice rbq19 (noBook).off.length nbq19, .int .i64 (noBook).sent, .slice rcq19 (noBook).took.length ncq19, .int .i64 (noBook).cash] rfl (fun wq19 hb7 hw7 => ?_)
 have hkq19 : Keeps (fun j => j = gaq19) wn2 wq19 := (Keeps.of_step (hW5.trans hW6)).trans (.wrote hw7 rfl)
 have HTx := Lib.hid (Step.wrote ((HT.out.trans hW5).trans hW6) hw7 hgb)
 replace HAq19 := Lib.hid (AV.triv (AV.later HAq19.out hgoq19 hkq19))
 have HBq19 := Lib.hid hb7
 clear hW5 hg hgb hgN hW6 hb6 hb7 hw7 HT
 replace HAa := Lib.hid (HAa.out.keep (.of_step HTx.out)); replace HAo := Lib.hid (HAo.out.keep (.of_step HTx.out)); replace HRo := Lib.hid (HRo.out.keep (.of_step HTx.out)); replace HAx := Lib.hid (HAx.out.keep (.of_step HTx.out)); replace HBa := Lib.hid (HBa.out.step HTx.out); replace HBo := Lib.hid (HBo.out.step HTx.out); replace HBx := Lib.hid (HBx.out.step HTx.out); replace HS := Lib.hid (HS.out.trans HTx.out)
 clear HTx hgoq19 hkq19
 clear HAq19 HBq19
 go_upto_region 20 with (fail)
 obtain ⟨f0, f1, f2, f3, f4, f5⟩ := cells6 HBa.out
 refine wp_region_seqM (fun c d v a w h => by cases d <;> exact h) (kdOf [0, 2] [(6, 77, .agg #[.int .i64 0, .slice none 0 0, .slice none 0 0, .int .i64 0, .slice none 0 0, .int .i64 0])]) [0, 0, 3, 7, 15, 15, 0, 95, 255] [1, 0, 2, 3, 4, 5, 6] [7, 8] (by kernel_rfl) (by kernel_rfl) (fun i T z hi hk => by simp only [List.mem_cons, List.not_mem_nil, or_false] at hi; rcases hi with rfl | rfl | rfl | rfl | rfl | rfl | rfl <;> simp [kdOf] at hk <;> (obtain ⟨rfl, rfl⟩ := hk; first | (show Option.bind _ _ = some _; kernel_rfl) | (refine ⟨_, rfl, fun _ _ => ?_⟩; go_simp))) ?_
 intro Wx hWx
 have f0 := (hWx).kc f0; have f1 := (hWx).kc f1; have f2 := (hWx).kc f2; have f3 := (hWx).kc f3; have f4 := (hWx).kc f4; have f5 := (hWx).kc f5
 repeat (first | (refine run_off rfl rfl (by rfl) ?_; (try simp only [Act.put, zA, zB, zC])) | (refine run_chain_off rfl rfl (by rfl) (K0_mono _) ?_; (try simp only [Act.put, zA, zB, zC])) | ((refine run_want rfl rfl (by rfl) ⟨?_, fun W hW => ?_, ?_⟩; rotate_left; (· (have d0 := hW.kc f0; have d1 := hW.kc f1; have d2 := hW.kc f2; have d3 := hW.kc f3; have d4 := hW.kc f4; have d5 := hW.kc f5; go_simp; (try with_reducible rfl)))); (try simp only [Act.put, zA, zB, zC])))
 clear f0 f1 f2 f3 f4 f5
 refine run_chain rfl rfl (by rfl) (fun Wi hWi K' hK => ?_)
 have HTi := Lib.hid (hWx.trans hWi)
 clear hWx hWi
 go_simp
 refine (Tent_any _).mono ?_
 rintro e wn ⟨vh, rfl, hvh, hSn⟩
 have HVH := Lib.hid (AV.triv hvh)
 have HT := Lib.hid (HTi.out.trans hSn)
 clear HTi hvh
 refine hK _ _ hSn ?_
 clear hSn hK
 (try simp only [Act.put, zA, zB, zC])
 repeat (first | (refine run_off rfl rfl (by rfl) ?_; (try simp only [Act.put, zA, zB, zC])) | (refine run_chain_off rfl rfl (by rfl) (K0_mono _) ?_; (try simp only [Act.put, zA, zB, zC])) | ((refine run_want rfl rfl (by rfl) ⟨?_, fun W hW => ?_, ?_⟩; rotate_left; (· (skip; go_simp; (try with_reducible rfl)))); (try simp only [Act.put, zA, zB, zC])))
 refine run_chain rfl rfl (by rfl) (fun Wi hWi K' hK => ?_)
 have HTi := Lib.hid (HT.out.trans hWi)
 have HVHi := Lib.hid (HVH.out.keep (.of_step hWi))
 clear hWi HT HVH
 go_simp
 refine (Refund_any _ tentH tentB _ _ 0 2 _ HVHi.out (HAa.out.keep (.of_step HTi.out))).mono ?_
 rintro e wn2 ⟨v6, rfl, hv6, hSn⟩
 rw [nm_t] at hv6 ⊢
 dsimp only at hv6 ⊢
 have HT := Lib.hid (HTi.out.trans hSn)
 clear HVHi HTi
 obtain ⟨x1, x2, x4, rfl, t1, t2, t4⟩ := hv6.book
 obtain ⟨raq20, naq20, rfl⟩ := t1.form
 obtain ⟨rbq20, nbq20, rfl⟩ := t2.form
 obtain ⟨rcq20, ncq20, rfl⟩ := t4.form
 have HAq20 := Lib.hid hv6
 clear t1 t2 t4 hv6
 refine hK _ _ (StepX.of hSn) ?_
 clear hSn hK
 (try simp only [Act.put, zA, zB, zC])
 repeat (first | (refine run_off rfl rfl (by rfl) ?_; (try simp only [Act.put, zA, zB, zC])) | (refine run_chain_off rfl rfl (by rfl) (K0_mono _) ?_; (try simp only [Act.put, zA, zB, zC])) | ((refine run_want rfl rfl (by rfl) ⟨?_, fun W hW => ?_, ?_⟩; rotate_left; (· (skip; go_simp; (try with_reducible rfl)))); (try simp only [Act.put, zA, zB, zC])))
 refine run_alloc rfl rfl (fun W5 gaq20 hW5 hg hgb hgN => ?_)
 have hgoq20 : ∀ j, j < wn2.heap.size → j = gaq20 → j < Wi.heap.size := fun j hj hs => by omega
 (try simp only [Act.put, zA, zB, zC])
 repeat (first | (refine run_off rfl rfl (by rfl) ?_; (try simp only [Act.put, zA, zB, zC])) | (refine run_chain_off rfl rfl (by rfl) (K0_mono _) ?_; (try simp only [Act.put, zA, zB, zC])) | ((refine run_want rfl rfl (by rfl) ⟨?_, fun W hW => ?_, ?_⟩; rotate_left; (· (skip; go_simp; (try with_reducible rfl)))); (try simp only [Act.put, zA, zB, zC])))
 refine run_end (L := [_, _]) rfl (fun W6 hW6 => ?_)
 have hb6 := Bx.step (w := W5) (cs := [_, _, _, _, _, _]) hg hW6
 refine wpl_store (v := .agg #[.int .i64 (noBook).agency, .slice raq20 (noBook).seats.length naq20, .slice rbq20 (noBook).off.length nbq20, .int .i64 (noBook).sent, .slice rcq20 (noBook).took.length ncq20, .int .i64 (noBook).cash]) rfl _ _ _ rfl rfl rfl hb6 (by kernel_rfl) (by simp [Value.cells]) (by simp [Value.cells, Value.oneCell']) [.int .i64 (noBook).agency, .slice raq20 (noBook).seats.length naq20, .slice rbq20 (noBook).off.length nbq20, .int .i64 (noBook).sent, .slice rcq20 (noBook).took.length ncq20, .int .i64 (noBook).cash] rfl (fun wq20 hb7 hw7 => ?_)
 have hkq20 : Keeps (fun j => j = gaq20) wn2 wq20 := (Keeps.of_step (hW5.trans hW6)).trans (.wrote hw7 rfl)
 have HTx := Lib.hid (Step.wrote ((HT.out.trans hW5).trans hW6) hw7 hgb)
 replace HAq20 := Lib.hid (AV.triv (AV.later HAq20.out hgoq20 hkq20))
 have HBq20 := Lib.hid hb7
 clear hW5 hg hgb hgN hW6 hb6 hb7 hw7 HT
 replace HAa := Lib.hid (HAa.out.keep (.of_step HTx.out)); replace HAo := Lib.hid (HAo.out.keep (.of_step HTx.out)); replace HRo := Lib.hid (HRo.out.keep (.of_step HTx.out)); replace HAx := Lib.hid (HAx.out.keep (.of_step HTx.out)); replace HBa := Lib.hid (HBa.out.step HTx.out); replace HBo := Lib.hid (HBo.out.step HTx.out); replace HBx := Lib.hid (HBx.out.step HTx.out); replace HS := Lib.hid (HS.out.trans HTx.out)
 clear HTx hgoq20 hkq20
 clear HAq20 HBq20
 go_upto_region 21 with (fail)
 obtain ⟨f0, f1, f2, f3, f4, f5⟩ := cells6 HBx.out
 refine wp_region_seqM (fun c d v a w h => by cases d <;> exact h) (kdOf [0, 2] [(7, 77, .agg #[.int .i64 0, .slice none 0 0, .slice none 0 0, .int .i64 0, .slice none 0 0, .int .i64 0])]) [0, 0, 3, 7, 15, 15, 15, 0, 159, 447, 1023] [1, 0, 2, 3, 4, 5, 6, 7] [8, 9, 10] (by kernel_rfl) (by kernel_rfl) (fun i T z hi hk => by simp only [List.mem_cons, List.not_mem_nil, or_false] at hi; rcases hi with rfl | rfl | rfl | rfl | rfl | rfl | rfl | rfl <;> simp [kdOf] at hk <;> (obtain ⟨rfl, rfl⟩ := hk; first | (show Option.bind _ _ = some _; kernel_rfl) | (refine ⟨_, rfl, fun _ _ => ?_⟩; go_simp))) ?_
 intro Wx hWx
 have f0 := (hWx).kc f0; have f1 := (hWx).kc f1; have f2 := (hWx).kc f2; have f3 := (hWx).kc f3; have f4 := (hWx).kc f4; have f5 := (hWx).kc f5
 repeat (first | (refine run_off rfl rfl (by rfl) ?_; (try simp only [Act.put, zA, zB, zC])) | (refine run_chain_off rfl rfl (by rfl) (K0_mono _) ?_; (try simp only [Act.put, zA, zB, zC])) | ((refine run_want rfl rfl (by rfl) ⟨?_, fun W hW => ?_, ?_⟩; rotate_left; (· (have d0 := hW.kc f0; have d1 := hW.kc f1; have d2 := hW.kc f2; have d3 := hW.kc f3; have d4 := hW.kc f4; have d5 := hW.kc f5; go_simp; (try with_reducible rfl)))); (try simp only [Act.put, zA, zB, zC])))
 clear f0 f1 f2 f3 f4 f5
 refine run_chain rfl rfl (by rfl) (fun Wi hWi K' hK => ?_)
 have HTi := Lib.hid (hWx.trans hWi)
 clear hWx hWi
 go_simp
 refine (Tent_any _).mono ?_
 rintro e wn ⟨vh, rfl, hvh, hSn⟩
 have HVH := Lib.hid (AV.triv hvh)
 have HT := Lib.hid (HTi.out.trans hSn)
 clear HTi hvh
 refine hK _ _ hSn ?_
 clear hSn hK
 (try simp only [Act.put, zA, zB, zC])
 repeat (first | (refine run_off rfl rfl (by rfl) ?_; (try simp only [Act.put, zA, zB, zC])) | (refine run_chain_off rfl rfl (by rfl) (K0_mono _) ?_; (try simp only [Act.put, zA, zB, zC])) | ((refine run_want rfl rfl (by rfl) ⟨?_, fun W hW => ?_, ?_⟩; rotate_left; (· (skip; go_simp; (try with_reducible rfl)))); (try simp only [Act.put, zA, zB, zC])))
 refine run_chain rfl rfl (by rfl) (fun Wi hWi K' hK => ?_)
 have HTi := Lib.hid (HT.out.trans hWi)
 have HVHi := Lib.hid (HVH.out.keep (.of_step hWi))
 clear hWi HT HVH
 go_simp
 refine (Lose_any _ tentH tentD _ _ 0 4 _ HVHi.out (HAx.out.keep (.of_step HTi.out))).mono ?_
 rintro e wn2 ⟨v6, l6, rfl, hv6, hl6, hSn⟩
 rw [nm_u] at hv6 hl6 ⊢
 dsimp only [bookOf, actR, restOf] at hv6 hl6
 simp only [bookOf, actR]
 obtain ⟨pl2, kl2, rfl⟩ := hl6.form
 clear hl6
 have HT := Lib.hid (HTi.out.trans hSn)
 clear HVHi HTi
 obtain ⟨x1, x2, x4, rfl, t1, t2, t4⟩ := hv6.book
 obtain ⟨raq21, naq21, rfl⟩ := t1.form
 obtain ⟨rbq21, nbq21, rfl⟩ := t2.form
 obtain ⟨rcq21, ncq21, rfl⟩ := t4.form
 have HAq21 := Lib.hid hv6
 clear t1 t2 t4 hv6
 refine hK _ _ (StepX.of hSn) ?_
 clear hSn hK
 (try simp only [Act.put, zA, zB, zC])
 repeat (first | (refine run_off rfl rfl (by rfl) ?_; (try simp only [Act.put, zA, zB, zC])) | (refine run_chain_off rfl rfl (by rfl) (K0_mono _) ?_; (try simp only [Act.put, zA, zB, zC])) | ((refine run_want rfl rfl (by rfl) ⟨?_, fun W hW => ?_, ?_⟩; rotate_left; (· (skip; go_simp; (try with_reducible rfl)))); (try simp only [Act.put, zA, zB, zC])))
 refine run_alloc rfl rfl (fun W5 gaq21 hW5 hg hgb hgN => ?_)
 have hgoq21 : ∀ j, j < wn2.heap.size → j = gaq21 → j < Wi.heap.size := fun j hj hs => by omega
 (try simp only [Act.put, zA, zB, zC])
 repeat (first | (refine run_off rfl rfl (by rfl) ?_; (try simp only [Act.put, zA, zB, zC])) | (refine run_chain_off rfl rfl (by rfl) (K0_mono _) ?_; (try simp only [Act.put, zA, zB, zC])) | ((refine run_want rfl rfl (by rfl) ⟨?_, fun W hW => ?_, ?_⟩; rotate_left; (· (skip; go_simp; (try with_reducible rfl)))); (try simp only [Act.put, zA, zB, zC])))
 refine run_end (L := [_, _, _]) rfl (fun W6 hW6 => ?_)
 have hb6 := Bx.step (w := W5) (cs := [_, _, _, _, _, _]) hg hW6
 refine wpl_store (v := .agg #[.int .i64 (noBook).agency, .slice raq21 (noBook).seats.length naq21, .slice rbq21 (noBook).off.length nbq21, .int .i64 (noBook).sent, .slice rcq21 (noBook).took.length ncq21, .int .i64 (noBook).cash]) rfl _ _ _ rfl rfl rfl hb6 (by kernel_rfl) (by simp [Value.cells]) (by simp [Value.cells, Value.oneCell']) [.int .i64 (noBook).agency, .slice raq21 (noBook).seats.length naq21, .slice rbq21 (noBook).off.length nbq21, .int .i64 (noBook).sent, .slice rcq21 (noBook).took.length ncq21, .int .i64 (noBook).cash] rfl (fun wq21 hb7 hw7 => ?_)
 have hkq21 : Keeps (fun j => j = gaq21) wn2 wq21 := (Keeps.of_step (hW5.trans hW6)).trans (.wrote hw7 rfl)
 have HTx := Lib.hid (Step.wrote ((HT.out.trans hW5).trans hW6) hw7 hgb)
 replace HAq21 := Lib.hid (AV.triv (AV.later HAq21.out hgoq21 hkq21))
 have HBq21 := Lib.hid hb7
 clear hW5 hg hgb hgN hW6 hb6 hb7 hw7 HT
 replace HAa := Lib.hid (HAa.out.keep (.of_step HTx.out)); replace HAo := Lib.hid (HAo.out.keep (.of_step HTx.out)); replace HRo := Lib.hid (HRo.out.keep (.of_step HTx.out)); replace HAx := Lib.hid (HAx.out.keep (.of_step HTx.out)); replace HBa := Lib.hid (HBa.out.step HTx.out); replace HBo := Lib.hid (HBo.out.step HTx.out); replace HBx := Lib.hid (HBx.out.step HTx.out); replace HS := Lib.hid (HS.out.trans HTx.out)
 clear HTx hgoq21 hkq21
 clear HAq21 HBq21
 go_upto_region 22 with (fail)
 obtain ⟨f0, f1, f2, f3, f4, f5⟩ := cells6 HBx.out
 refine wp_region_seqM (fun c d v a w h => by cases d <;> exact h) (kdOf [0, 2] [(6, 77, .agg #[.int .i64 0, .slice none 0 0, .slice none 0 0, .int .i64 0, .slice none 0 0, .int .i64 0])]) [0, 0, 3, 7, 15, 15, 0, 95, 255] [1, 0, 2, 3, 4, 5, 6] [7, 8] (by kernel_rfl) (by kernel_rfl) (fun i T z hi hk => by simp only [List.mem_cons, List.not_mem_nil, or_false] at hi; rcases hi with rfl | rfl | rfl | rfl | rfl | rfl | rfl <;> simp [kdOf] at hk <;> (obtain ⟨rfl, rfl⟩ := hk; first | (show Option.bind _ _ = some _; kernel_rfl) | (refine ⟨_, rfl, fun _ _ => ?_⟩; go_simp))) ?_
 intro Wx hWx
 have f0 := (hWx).kc f0; have f1 := (hWx).kc f1; have f2 := (hWx).kc f2; have f3 := (hWx).kc f3; have f4 := (hWx).kc f4; have f5 := (hWx).kc f5
 repeat (first | (refine run_off rfl rfl (by rfl) ?_; (try simp only [Act.put, zA, zB, zC])) | (refine run_chain_off rfl rfl (by rfl) (K0_mono _) ?_; (try simp only [Act.put, zA, zB, zC])) | ((refine run_want rfl rfl (by rfl) ⟨?_, fun W hW => ?_, ?_⟩; rotate_left; (· (have d0 := hW.kc f0; have d1 := hW.kc f1; have d2 := hW.kc f2; have d3 := hW.kc f3; have d4 := hW.kc f4; have d5 := hW.kc f5; go_simp; (try with_reducible rfl)))); (try simp only [Act.put, zA, zB, zC])))
 clear f0 f1 f2 f3 f4 f5
 refine run_chain rfl rfl (by rfl) (fun Wi hWi K' hK => ?_)
 have HTi := Lib.hid (hWx.trans hWi)
 clear hWx hWi
 go_simp
 refine (Tent_any _).mono ?_
 rintro e wn ⟨vh, rfl, hvh, hSn⟩
 have HVH := Lib.hid (AV.triv hvh)
 have HT := Lib.hid (HTi.out.trans hSn)
 clear HTi hvh
 refine hK _ _ hSn ?_
 clear hSn hK
 (try simp only [Act.put, zA, zB, zC])
 repeat (first | (refine run_off rfl rfl (by rfl) ?_; (try simp only [Act.put, zA, zB, zC])) | (refine run_chain_off rfl rfl (by rfl) (K0_mono _) ?_; (try simp only [Act.put, zA, zB, zC])) | ((refine run_want rfl rfl (by rfl) ⟨?_, fun W hW => ?_, ?_⟩; rotate_left; (· (skip; go_simp; (try with_reducible rfl)))); (try simp only [Act.put, zA, zB, zC])))
 refine run_chain rfl rfl (by rfl) (fun Wi hWi K' hK => ?_)
 have HTi := Lib.hid (HT.out.trans hWi)
 have HVHi := Lib.hid (HVH.out.keep (.of_step hWi))
 clear hWi HT HVH
 go_simp
 refine (Sell_any _ tentH tentD _ _ 0 0 9 3 _ HVHi.out (HAx.out.keep (.of_step HTi.out))).mono ?_
 rintro e wn2 ⟨v6, rfl, hv6, hSn⟩
 rw [nm_v] at hv6 ⊢
 dsimp only at hv6 ⊢
 have HT := Lib.hid (HTi.out.trans hSn)
 clear HVHi HTi
 obtain ⟨x1, x2, x4, rfl, t1, t2, t4⟩ := hv6.book
 obtain ⟨raq22, naq22, rfl⟩ := t1.form
 obtain ⟨rbq22, nbq22, rfl⟩ := t2.form
 obtain ⟨rcq22, ncq22, rfl⟩ := t4.form
 have HAq22 := Lib.hid hv6
 clear t1 t2 t4 hv6
 refine hK _ _ (StepX.of hSn) ?_
 clear hSn hK
 (try simp only [Act.put, zA, zB, zC])
 repeat (first | (refine run_off rfl rfl (by rfl) ?_; (try simp only [Act.put, zA, zB, zC])) | (refine run_chain_off rfl rfl (by rfl) (K0_mono _) ?_; (try simp only [Act.put, zA, zB, zC])) | ((refine run_want rfl rfl (by rfl) ⟨?_, fun W hW => ?_, ?_⟩; rotate_left; (· (skip; go_simp; (try with_reducible rfl)))); (try simp only [Act.put, zA, zB, zC])))
 refine run_alloc rfl rfl (fun W5 gaq22 hW5 hg hgb hgN => ?_)
 have hgoq22 : ∀ j, j < wn2.heap.size → j = gaq22 → j < Wi.heap.size := fun j hj hs => by omega
 (try simp only [Act.put, zA, zB, zC])
 repeat (first | (refine run_off rfl rfl (by rfl) ?_; (try simp only [Act.put, zA, zB, zC])) | (refine run_chain_off rfl rfl (by rfl) (K0_mono _) ?_; (try simp only [Act.put, zA, zB, zC])) | ((refine run_want rfl rfl (by rfl) ⟨?_, fun W hW => ?_, ?_⟩; rotate_left; (· (skip; go_simp; (try with_reducible rfl)))); (try simp only [Act.put, zA, zB, zC])))
 refine run_end (L := [_, _]) rfl (fun W6 hW6 => ?_)
 have hb6 := Bx.step (w := W5) (cs := [_, _, _, _, _, _]) hg hW6
 refine wpl_store (v := .agg #[.int .i64 (noBook).agency, .slice raq22 (noBook).seats.length naq22, .slice rbq22 (noBook).off.length nbq22, .int .i64 (noBook).sent, .slice rcq22 (noBook).took.length ncq22, .int .i64 (noBook).cash]) rfl _ _ _ rfl rfl rfl hb6 (by kernel_rfl) (by simp [Value.cells]) (by simp [Value.cells, Value.oneCell']) [.int .i64 (noBook).agency, .slice raq22 (noBook).seats.length naq22, .slice rbq22 (noBook).off.length nbq22, .int .i64 (noBook).sent, .slice rcq22 (noBook).took.length ncq22, .int .i64 (noBook).cash] rfl (fun wq22 hb7 hw7 => ?_)
 have hkq22 : Keeps (fun j => j = gaq22) wn2 wq22 := (Keeps.of_step (hW5.trans hW6)).trans (.wrote hw7 rfl)
 have HTx := Lib.hid (Step.wrote ((HT.out.trans hW5).trans hW6) hw7 hgb)
 replace HAq22 := Lib.hid (AV.triv (AV.later HAq22.out hgoq22 hkq22))
 have HBq22 := Lib.hid hb7
 clear hW5 hg hgb hgN hW6 hb6 hb7 hw7 HT
 replace HAa := Lib.hid (HAa.out.keep (.of_step HTx.out)); replace HAo := Lib.hid (HAo.out.keep (.of_step HTx.out)); replace HRo := Lib.hid (HRo.out.keep (.of_step HTx.out)); replace HAx := Lib.hid (HAx.out.keep (.of_step HTx.out)); replace HBa := Lib.hid (HBa.out.step HTx.out); replace HBo := Lib.hid (HBo.out.step HTx.out); replace HBx := Lib.hid (HBx.out.step HTx.out); replace HS := Lib.hid (HS.out.trans HTx.out)
 clear HTx hgoq22 hkq22
 clear HAq22 HBq22
 clear HAa HBa HAx HBx
 go_upto_region 23 with (fail)
 have f5 := HBo.out.cell 5
 have g5 := HBo.out.frozen 5
 simp only [zD, zE] at f5
 have hw5 : IntKind.i64.wrap (tentC.cash + 1) = 21 := by kernel_rfl
 go_upto_region 24 with (fail)
 clear f5 g5 hw5
 obtain ⟨wo1, hwo1⟩ : ∃ z9, z9 = wq22.setCell ⟨gao, 5, none⟩ (.int .i64 21) := ⟨_, rfl⟩
 have hbo := HBo.out.setCell 5 (.int .i64 21)
 have hro := HRo.out.keep (Keeps.wrote (S := fun j => j = gao) (Wrote.setCell wq22 gao 5 (.int .i64 21)) rfl)
 have hso := HS.out.setNew ⟨gao, 5, none⟩ (.int .i64 21) HGo.out
 rw [← hwo1] at hbo hro hso ⊢
 have hao : AV (fun _ => False) wo1 (.agg #[.int .i64 tentC.agency, .slice rao tentC.seats.length nao, .slice rbo tentC.off.length nbo, .int .i64 tentC.sent, .slice rco tentC.took.length nco, .int .i64 21]) nmO := by
  obtain ⟨d1, d2, d4, hde, s1, s2, s4⟩ := (AV.triv hro).book
  cases hde
  exact ⟨_, rfl, _, _, _, rfl, s1, s2, s4⟩
 clear HAo HBo HRo HS HGo hwo1 hro
 have HAo := Lib.hid hao
 have HBo := Lib.hid (show Bx wo1 gao [.int .i64 tentC.agency, .slice rao tentC.seats.length nao, .slice rbo tentC.off.length nbo, .int .i64 tentC.sent, .slice rco tentC.took.length nco, .int .i64 21] 77 from hbo)
 have HS := Lib.hid hso
 clear hao hbo hso
 go_wp2_with fail
 refine (Tent_any _).mono ?_
 rintro e wn ⟨vh, rfl, hvh, hSn⟩
 have HVH := Lib.hid (AV.triv hvh)
 replace HAo := Lib.hid (HAo.out.keep (.of_step hSn)); replace HBo := Lib.hid (HBo.out.step hSn); replace HS := Lib.hid (HS.out.trans hSn)
 clear hvh hSn
 go_wp2_with fail
 obtain ⟨W2, hW2⟩ : ∃ z9, z9 = (wn.alloc (.cells #[.int .i64 0] 3)).alloc (.cells #[.int .u8 9, .int .i64 0, .int .i64 0, .int .i64 0, .int .i64 0, .int .i64 0, .int .i64 0, .int .i64 0, .slice none 0 0, .int .u8 3, .int .i64 0, .int .i64 0, .int .i64 0, .int .i64 0, .int .i64 0, .int .i64 1, .int .i64 0, .slice (some ⟨wn.heap.size, 0, none⟩) 1 1, .int .u8 4, .int .i64 1, .int .i64 0, .int .i64 0, .int .i64 0, .int .i64 0, .int .i64 0, .int .i64 1, .slice none 0 0] 100) := ⟨_, rfl⟩
 have hbA : Bx W2 (wn.heap.size + 1) [.int .u8 9, .int .i64 0, .int .i64 0, .int .i64 0, .int .i64 0, .int .i64 0, .int .i64 0, .int .i64 0, .slice none 0 0, .int .u8 3, .int .i64 0, .int .i64 0, .int .i64 0, .int .i64 0, .int .i64 0, .int .i64 1, .int .i64 0, .slice (some ⟨wn.heap.size, 0, none⟩) 1 1, .int .u8 4, .int .i64 1, .int .i64 0, .int .i64 0, .int .i64 0, .int .i64 0, .int .i64 0, .int .i64 1, .slice none 0 0] 100 := by
  subst hW2
  exact Bx.new' _ [.int .u8 9, .int .i64 0, .int .i64 0, .int .i64 0, .int .i64 0, .int .i64 0, .int .i64 0, .int .i64 0, .slice none 0 0, .int .u8 3, .int .i64 0, .int .i64 0, .int .i64 0, .int .i64 0, .int .i64 0, .int .i64 1, .int .i64 0, .slice (some ⟨wn.heap.size, 0, none⟩) 1 1, .int .u8 4, .int .i64 1, .int .i64 0, .int .i64 0, .int .i64 0, .int .i64 0, .int .i64 0, .int .i64 1, .slice none 0 0] _ _ (by simp)
 have hbI : Bx W2 wn.heap.size [.int .i64 0] 3 := by subst hW2; exact (Bx.new _ [_] _).alloc _
 have hS2 : Step wn W2 := by subst hW2; exact (by repeat (first | (with_reducible assumption) | (with_reducible exact Step.refl _) | (with_reducible apply Step.s_alloc) | (with_reducible apply Step.s_drew) | (with_reducible apply Step.s_drewN) | (with_reducible refine Step.trans ?_ (by with_reducible assumption))))
 rw [← hW2]
 have hsI : SL (fun _ => False) W2 (.slice (some ⟨wn.heap.size, 0, none⟩) 1 1) ([0] : List Int) := SL.bx_ints (l := [0]) hbI (fun h => h) 1 (by decide) (by decide)
 have hacts : SL (fun _ => False) W2 (.slice (some ⟨wn.heap.size + 1, 0, none⟩) 3 3) nmL := SL.bx (l := nmL) hbA (fun h => h) 3 (by decide) (by decide) (fun i hi => by
  have hi3 : i < 3 := hi
  have : i = 0 ∨ i = 1 ∨ i = 2 := by omega
  rcases this with rfl | rfl | rfl
  ·exact ⟨_, rfl, SL.nil _ _, nm_kinds _ hi⟩
  ·exact ⟨_, rfl, hsI, nm_kinds _ hi⟩
  ·exact ⟨_, rfl, SL.nil _ _, nm_kinds _ hi⟩)
 refine (Run_any _ tentH nmL _ _ _ (HVH.out.keep (.of_step hS2)) hacts nm_seats).mono ?_
 rintro e wq ⟨vw, ve, rfl, hvw, hve, hSr⟩
 rw [nm_runE] at hve
 rw [nm_runC]
 have HSD := Lib.hid nm_sound
 have hml := nm_len.2
 obtain ⟨RW, hRW⟩ : ∃ z9, z9 = runW tentH nmL := ⟨_, rfl⟩
 rw [← hRW] at hvw HSD hml
 have HML := Lib.hid (show RW.msgs.length ≤ 1000000 by omega)
 obtain ⟨b0, b1, rfl, s0, s1⟩ := hvw.wd
 obtain ⟨qb, kb, rfl⟩ := s0.form
 obtain ⟨qm2, km2, rfl⟩ := s1.form
 obtain ⟨pe, ke, be, oe, rfl, _, _, hpe, hce, _⟩ := hve.ints
 obtain rfl := hpe (by decide)
 have z0 : wq.cell? ⟨be, oe + 0, none⟩ = some (.int .i64 1) := hce 0 (by decide)
 have z1 : wq.cell? ⟨be, oe + 1, none⟩ = some (.int .i64 0) := hce 1 (by decide)
 have z2 : wq.cell? ⟨be, oe + 2, none⟩ = some (.int .i64 2) := hce 2 (by decide)
 simp only [Nat.add_zero] at z0
 have HVW := Lib.hid (AV.triv hvw)
 have HZ := Lib.hid (And.intro z0 (And.intro z1 z2))
 have hSr := hS2.trans hSr
 clear HVH hbA hbI hS2 hsI hacts hvw hve s0 s1 hpe hce z0 z1 z2 hRW hW2 hml
 replace HAo := Lib.hid (HAo.out.keep (.of_step hSr)); replace HBo := Lib.hid (HBo.out.step hSr); replace HS := Lib.hid (HS.out.trans hSr)
 clear hSr
 go_upto_region 25 with (fail)
 obtain ⟨gw, hgw⟩ : ∃ g, g = wq.heap.size := ⟨_, rfl⟩
 obtain ⟨W3, hW3⟩ : ∃ z9, z9 = wq.alloc (.cells #[.slice qb RW.books.length kb, .slice qm2 RW.msgs.length km2] 34) := ⟨_, rfl⟩
 have hbw : Bx W3 gw [.slice qb RW.books.length kb, .slice qm2 RW.msgs.length km2] 34 := by subst hW3 hgw; exact Bx.new _ [_, _] _
 have hS3 : Step wq W3 := by subst hW3; exact Step.alloc _ _
 rw [← hW3, ← hgw]
 have HBw := Lib.hid hbw
 have HZ3 := Lib.hid (And.intro (hS3.kc HZ.out.1) (And.intro (hS3.kc HZ.out.2.1) (hS3.kc HZ.out.2.2)))
 replace HVW := Lib.hid (HVW.out.keep (.of_step hS3))
 clear hbw hW3 hgw HZ
 replace HAo := Lib.hid (HAo.out.keep (.of_step hS3)); replace HBo := Lib.hid (HBo.out.step hS3); replace HS := Lib.hid (HS.out.trans hS3)
 clear hS3
 obtain ⟨f0, f1, f2, f3, f4, f5⟩ := cells6 HBo.out
 obtain ⟨y0, y1⟩ : _ ∧ _ := ⟨HBw.out.cell 0, HBw.out.cell 1⟩
 simp only [zD, zE] at y0 y1
 obtain ⟨z0, z1, z2⟩ := HZ3.out
 have hix0 : (0 : Int) ≤ 0 ∧ (0 : Int) < 3 := by decide
 have hix1 : (0 : Int) ≤ 1 ∧ (1 : Int) < 3 := by decide
 have hix2 : (0 : Int) ≤ 2 ∧ (2 : Int) < 3 := by decide
 refine Mk.wp_region_seqM (fun c d v a w h => by cases d <;> exact h) (Mk.kdP [53] (Mk.kdOf [15, 17, 48, 50, 54, 58] [] [])) (0 :: 1 :: 3 :: 7 :: 15 :: 31 :: 63 :: 127 :: 255 :: 511 :: 1023 :: 2047 :: 4095 :: 8191 :: 16383 :: 32767 :: 32767 :: 131071 :: 262143 :: 524287 :: 1048575 :: 2097151 :: 4194303 :: 8388607 :: 16777215 :: 33554431 :: 67108863 :: 134217727 :: 268435455 :: 536870911 :: 1073741823 :: 2147483647 :: 4294967295 :: 8589934591 :: 17179869183 :: 34359738367 :: 68719476735 :: 137438953471 :: 274877906943 :: 549755813887 :: 1099511627775 :: 2199023255551 :: 4398046511103 :: 8796093022207 :: 17592186044415 :: 35184372088831 :: 70368744177663 :: 140737488355327 :: 281474976710655 :: 281474976710655 :: 1125899906842623 :: 2251799813685247 :: 4503599627370495 :: 9007199254740991 :: 18014398509481983 :: 36028797018963967 :: 72057594037927935 :: 144115188075855871 :: 288230376151711743 :: 576460752303423487 :: 1152921504606846975 :: []) (0 :: 1 :: 2 :: 3 :: 4 :: 5 :: 6 :: 7 :: 8 :: 9 :: 10 :: 11 :: 12 :: 13 :: 14 :: 16 :: 15 :: 17 :: 18 :: 19 :: 20 :: 21 :: 22 :: 23 :: 24 :: 25 :: 26 :: 27 :: 28 :: 29 :: 30 :: 31 :: 32 :: 33 :: 34 :: 35 :: 36 :: 37 :: 38 :: 39 :: 40 :: 41 :: 42 :: 43 :: 44 :: 45 :: 46 :: 47 :: 49 :: 48 :: 50 :: 51 :: 52 :: 53 :: 54 :: 55 :: 56 :: 57 :: 58 :: 59 :: 60 :: []) [] (by kernel_rfl) (by kernel_rfl) (fun i T z hi hk => by simp only [List.mem_cons, List.not_mem_nil, or_false] at hi; rcases hi with rfl | rfl | rfl | rfl | rfl | rfl | rfl | rfl | rfl | rfl | rfl | rfl | rfl | rfl | rfl | rfl | rfl | rfl | rfl | rfl | rfl | rfl | rfl | rfl | rfl | rfl | rfl | rfl | rfl | rfl | rfl | rfl | rfl | rfl | rfl | rfl | rfl | rfl | rfl | rfl | rfl | rfl | rfl | rfl | rfl | rfl | rfl | rfl | rfl | rfl | rfl | rfl | rfl | rfl | rfl | rfl | rfl | rfl | rfl | rfl | rfl <;> simp [Mk.kdP, Mk.kdOf] at hk) ?_
 intro Wx hWx
 have f0 := (hWx).kc f0; have f1 := (hWx).kc f1; have f2 := (hWx).kc f2; have f3 := (hWx).kc f3; have f4 := (hWx).kc f4; have f5 := (hWx).kc f5; have y0 := (hWx).kc y0; have y1 := (hWx).kc y1; have z0 := (hWx).kc z0; have z1 := (hWx).kc z1; have z2 := (hWx).kc z2
 repeat (first | (refine Mk.run_off rfl rfl (by rfl) ?_; (try simp only [Act.put, zA, zB, zC])) | (refine Mk.run_chain_off rfl rfl (by rfl) (Mk.K0_mono _) ?_; (try simp only [Act.put, zA, zB, zC])) | ((refine Mk.run_want rfl rfl (by rfl) ⟨?_, fun W hW => ?_, ?_⟩; rotate_left; (· (have d0 := hW.kc f0; have d1 := hW.kc f1; have d2 := hW.kc f2; have d3 := hW.kc f3; have d4 := hW.kc f4; have d5 := hW.kc f5; have d6 := hW.kc y0; have d7 := hW.kc y1; have d8 := hW.kc z0; have d9 := hW.kc z1; have d10 := hW.kc z2; go_simp; (try with_reducible rfl)))); (try simp only [Act.put, zA, zB, zC])))
 have HT := Lib.hid hWx
 clear hWx
 refine Mk.run_chain rfl rfl (by rfl) (fun Wi hWi K' hK => ?_)
 have HTi := Lib.hid (HT.out.trans hWi)
 go_simp
 refine (Tent_any _).mono ?_
 rintro e wn ⟨vh, rfl, hvh, hSn⟩
 have HVH := Lib.hid (AV.triv hvh)
 have HT2 := Lib.hid (HTi.out.trans hSn)
 refine hK _ _ (.of hSn) ?_
 have f0 := (hWi.trans hSn).kc f0; have f1 := (hWi.trans hSn).kc f1; have f2 := (hWi.trans hSn).kc f2; have f3 := (hWi.trans hSn).kc f3; have f4 := (hWi.trans hSn).kc f4; have f5 := (hWi.trans hSn).kc f5; have y0 := (hWi.trans hSn).kc y0; have y1 := (hWi.trans hSn).kc y1; have z0 := (hWi.trans hSn).kc z0; have z1 := (hWi.trans hSn).kc z1; have z2 := (hWi.trans hSn).kc z2
 clear hSn hK HTi hWi hvh HT
 have HT := HT2
 clear HT2
 (try simp only [Act.put, zA, zB, zC])
 repeat (first | (refine Mk.run_off rfl rfl (by rfl) ?_; (try simp only [Act.put, zA, zB, zC])) | (refine Mk.run_chain_off rfl rfl (by rfl) (Mk.K0_mono _) ?_; (try simp only [Act.put, zA, zB, zC])) | ((refine Mk.run_want rfl rfl (by rfl) ⟨?_, fun W hW => ?_, ?_⟩; rotate_left; (· (have d0 := hW.kc f0; have d1 := hW.kc f1; have d2 := hW.kc f2; have d3 := hW.kc f3; have d4 := hW.kc f4; have d5 := hW.kc f5; have d6 := hW.kc y0; have d7 := hW.kc y1; have d8 := hW.kc z0; have d9 := hW.kc z1; have d10 := hW.kc z2; go_simp; (try with_reducible rfl)))); (try simp only [Act.put, zA, zB, zC])))
 refine Mk.run_chain rfl rfl (by rfl) (fun Wi hWi K' hK => ?_)
 have HTi := Lib.hid (HT.out.trans hWi)
 have HVHi := Lib.hid (HVH.out.keep (.of_step hWi))
 go_simp
 refine (CheckBook_any _ tentH nmO _ _ _ HVHi.out (HAo.out.keep (.of_step HTi.out))).mono ?_
 rintro e wn2 ⟨rfl, hSn⟩
 rw [nm_o]
 have HT2 := Lib.hid (HTi.out.trans hSn)
 refine hK _ _ (.of hSn) ?_
 have f0 := (hWi.trans hSn).kc f0; have f1 := (hWi.trans hSn).kc f1; have f2 := (hWi.trans hSn).kc f2; have f3 := (hWi.trans hSn).kc f3; have f4 := (hWi.trans hSn).kc f4; have f5 := (hWi.trans hSn).kc f5; have y0 := (hWi.trans hSn).kc y0; have y1 := (hWi.trans hSn).kc y1; have z0 := (hWi.trans hSn).kc z0; have z1 := (hWi.trans hSn).kc z1; have z2 := (hWi.trans hSn).kc z2
 clear hSn hK HTi HVHi HVH hWi HT
 have HT := HT2
 clear HT2
 (try simp only [Act.put, zA, zB, zC])
 repeat (first | (refine Mk.run_off rfl rfl (by rfl) ?_; (try simp only [Act.put, zA, zB, zC])) | (refine Mk.run_chain_off rfl rfl (by rfl) (Mk.K0_mono _) ?_; (try simp only [Act.put, zA, zB, zC])) | ((refine Mk.run_want rfl rfl (by rfl) ⟨?_, fun W hW => ?_, ?_⟩; rotate_left; (· (have d0 := hW.kc f0; have d1 := hW.kc f1; have d2 := hW.kc f2; have d3 := hW.kc f3; have d4 := hW.kc f4; have d5 := hW.kc f5; have d6 := hW.kc y0; have d7 := hW.kc y1; have d8 := hW.kc z0; have d9 := hW.kc z1; have d10 := hW.kc z2; go_simp; (try with_reducible rfl)))); (try simp only [Act.put, zA, zB, zC])))
 refine Mk.run_chain rfl rfl (by rfl) (fun Wi hWi K' hK => ?_)
 have HTi := Lib.hid (HT.out.trans hWi)
 go_simp
 refine (Tent_any _).mono ?_
 rintro e wn ⟨vh, rfl, hvh, hSn⟩
 have HVH := Lib.hid (AV.triv hvh)
 have HT2 := Lib.hid (HTi.out.trans hSn)
 refine hK _ _ (.of hSn) ?_
 have f0 := (hWi.trans hSn).kc f0; have f1 := (hWi.trans hSn).kc f1; have f2 := (hWi.trans hSn).kc f2; have f3 := (hWi.trans hSn).kc f3; have f4 := (hWi.trans hSn).kc f4; have f5 := (hWi.trans hSn).kc f5; have y0 := (hWi.trans hSn).kc y0; have y1 := (hWi.trans hSn).kc y1; have z0 := (hWi.trans hSn).kc z0; have z1 := (hWi.trans hSn).kc z1; have z2 := (hWi.trans hSn).kc z2
 clear hSn hK HTi hWi hvh HT
 have HT := HT2
 clear HT2
 (try simp only [Act.put, zA, zB, zC])
 repeat (first | (refine Mk.run_off rfl rfl (by rfl) ?_; (try simp only [Act.put, zA, zB, zC])) | (refine Mk.run_chain_off rfl rfl (by rfl) (Mk.K0_mono _) ?_; (try simp only [Act.put, zA, zB, zC])) | ((refine Mk.run_want rfl rfl (by rfl) ⟨?_, fun W hW => ?_, ?_⟩; rotate_left; (· (have d0 := hW.kc f0; have d1 := hW.kc f1; have d2 := hW.kc f2; have d3 := hW.kc f3; have d4 := hW.kc f4; have d5 := hW.kc f5; have d6 := hW.kc y0; have d7 := hW.kc y1; have d8 := hW.kc z0; have d9 := hW.kc z1; have d10 := hW.kc z2; go_simp; (try with_reducible rfl)))); (try simp only [Act.put, zA, zB, zC])))
 refine Mk.run_chain rfl rfl (by rfl) (fun Wi hWi K' hK => ?_)
 have HTi := Lib.hid (HT.out.trans hWi)
 have HVHi := Lib.hid (HVH.out.keep (.of_step hWi))
 go_simp
 refine (Sound_any _ _ tentH RW _ _ _ HVHi.out (HVW.out.keep (.of_step HTi.out)) HML.out).mono ?_
 rintro e wn2 ⟨rfl, hSn⟩
 rw [HSD.out]
 have HT2 := Lib.hid (HTi.out.trans hSn)
 refine hK _ _ (.of hSn) ?_
 clear hSn hK HTi HVHi HVH hWi HT f0 f1 f2 f3 f4 f5 y0 y1 z0 z1 z2
 have HT := HT2
 clear HT2
 (try simp only [Act.put, zA, zB, zC])
 repeat (first | (refine Mk.run_off rfl rfl (by rfl) ?_; (try simp only [Act.put, zA, zB, zC])) | (refine Mk.run_chain_off rfl rfl (by rfl) (Mk.K0_mono _) ?_; (try simp only [Act.put, zA, zB, zC])) | ((refine Mk.run_want rfl rfl (by rfl) ⟨?_, fun W hW => ?_, ?_⟩; rotate_left; (· (skip; go_simp; (try with_reducible rfl)))); (try simp only [Act.put, zA, zB, zC])))
 refine Mk.run_pure rfl rfl (by rfl) ⟨?_, fun W => ?_, ?_⟩
 rotate_left
 ·(go_simp; (try with_reducible rfl))
 (try simp only [Act.put, zA, zB, zC])
 repeat (first | (refine Mk.run_off rfl rfl (by rfl) ?_; (try simp only [Act.put, zA, zB, zC])) | (refine Mk.run_chain_off rfl rfl (by rfl) (Mk.K0_mono _) ?_; (try simp only [Act.put, zA, zB, zC])) | ((refine Mk.run_want rfl rfl (by rfl) ⟨?_, fun W hW => ?_, ?_⟩; rotate_left; (· (skip; go_simp; (try with_reducible rfl)))); (try simp only [Act.put, zA, zB, zC])))
 refine Mk.run_chain rfl rfl (by rfl) (fun Wi hWi K' hK => ?_)
 have HTi := Lib.hid (HT.out.trans hWi)
 clear hWi HT
 go_simp
 refine (CheckHouse_any (fun _ => False) ⟨[], [], [], [], []⟩ _ _ ⟨_, rfl, _, _, _, _, _, rfl, SL.nil _ _, SL.nil _ _, SL.nil _ _, SL.nil _ _, SL.nil _ _⟩).mono ?_
 rintro e wn2 ⟨rfl, hSn⟩
 rw [nm_none]
 have HT := Lib.hid (HTi.out.trans hSn)
 refine hK _ _ (.of hSn) ?_
 clear hSn hK HTi
 (try simp only [Act.put, zA, zB, zC])
 repeat (first | (refine Mk.run_off rfl rfl (by rfl) ?_; (try simp only [Act.put, zA, zB, zC])) | (refine Mk.run_chain_off rfl rfl (by rfl) (Mk.K0_mono _) ?_; (try simp only [Act.put, zA, zB, zC])) | ((refine Mk.run_want rfl rfl (by rfl) ⟨?_, fun W hW => ?_, ?_⟩; rotate_left; (· (skip; go_simp; (try with_reducible rfl)))); (try simp only [Act.put, zA, zB, zC])))
 refine Mk.run_chain rfl rfl (by rfl) (fun Wi hWi K' hK => ?_)
 have HTi := Lib.hid (HT.out.trans hWi)
 clear hWi HT
 go_simp
 refine (awake_any _).mono ?_
 rintro e wn2 ⟨rfl, hSn⟩
 have HT := Lib.hid (HTi.out.trans hSn)
 refine hK _ _ (.of hSn) ?_
 clear hSn hK HTi
 (try simp only [Act.put, zA, zB, zC])
 repeat (first | (refine Mk.run_off rfl rfl (by rfl) ?_; (try simp only [Act.put, zA, zB, zC])) | (refine Mk.run_chain_off rfl rfl (by rfl) (Mk.K0_mono _) ?_; (try simp only [Act.put, zA, zB, zC])) | ((refine Mk.run_want rfl rfl (by rfl) ⟨?_, fun W hW => ?_, ?_⟩; rotate_left; (· (skip; go_simp; (try with_reducible rfl)))); (try simp only [Act.put, zA, zB, zC])))
 refine Mk.run_end (L := []) rfl (fun Wz hWz => ?_)
 go_wp2
 go_ret
 exact ⟨rfl, HS.out.trans (HT.out.trans hWz)⟩
end Go.Proofs.YtgpiieogiafdoaaGreat
