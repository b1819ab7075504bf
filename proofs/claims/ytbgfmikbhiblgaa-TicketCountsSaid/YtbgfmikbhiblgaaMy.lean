/- The seats that may be sold: the program's and the reference's. -/
import Derived.Test.YtbgfmikbhiblgaaMg
import Derived.Test.YtbgfmikbhiblgaaMm
import Derived.Test.YtbgfmikbhiblgaaMo
import Derived.Test.YtbgfmikbhiblgaaMq
import Derived.Test.YtbgfmikbhiblgaaRows
/- Walks: the program's Free. -/
namespace Go.Proofs.Ytbgfmikbhiblgaa
set_option linter.unusedSimpArgs false
set_option linter.unusedVariables false
open Go.RowKit Go.BT

def freeOk (h : House) (s c d : Int) : Bool := withinB s 0 (h.dates.length - 1) && withinB c 0 (h.prices.length - 1) && withinB d 0 1000
def freeD (h : House) (b : Book) (s c d : Int) : Except Int (Book × List Int) := if freeOk h s c d = true then .ok (b, openL h b s c d) else .error 2
theorem freeD_no {h : House} {b : Book} {s c d : Int} (hc : freeOk h s c d = false) : freeD h b s c d = .error 2 := by simp [freeD, hc]
theorem freeD_yes {h : House} {b : Book} {s c d : Int} (hc : freeOk h s c d = true) : freeD h b s c d = .ok (b, openL h b s c d) := by simp [freeD, hc]
set_option maxHeartbeats 2000000 in
theorem free1_any {base : Nat} {W : World} {g : Nat} {h : House} {b : Book} (hD : DeskE base W g h b) (hO : OkDesk h b) (s c d : Int) (a1 a2 a3 a4 a5 : Nat) (h1 : W.cell? ⟨a1, 0, none⟩ = some (.int .i64 s)) (h2 : W.cell? ⟨a2, 0, none⟩ = some (.int .i64 c)) (p1 : Option Addr) (k1 : Nat) (h3 : W.cell? ⟨a3, 1, none⟩ = some (.slice p1 h.prices.length k1)) (h4 : W.cell? ⟨a4, 0, none⟩ = some (.int .i64 d))
    (y : Value) (h5 : Bx W a5 [y] 23) (hb5 : a5 < base) (hbW : base ≤ W.heap.size) :
    Calls Try.prog 78 #[.pointer (some ⟨g, 0, none⟩), .pointer (some ⟨a1, 0, none⟩), .pointer (some ⟨a2, 0, none⟩), .pointer (some ⟨a3, 0, none⟩), .pointer (some ⟨a4, 0, none⟩), .pointer (some ⟨a5, 0, none⟩)] W (fun e W' => DoEnds base (fun j => j = a5) g h (bookOf (freeD h b s c d)) (fun Z => ∃ v', Bx Z a5 [v'] 23 ∧ SL (fun j => j < base) Z v' (restOf [] (freeD h b s c d))) e W W') := by
  obtain ⟨c0, c1, c2, c3, c4, vs, vo, vt, xs, D⟩ := hD
  have HD := Lib.hid D
  have HO := Lib.hid hO
  have HC := Lib.hid (And.intro h1 (And.intro h2 (And.intro h3 h4)))
  have H5 := Lib.hid h5
  have HB := Lib.hid (And.intro hb5 hbW)
  have HT := Lib.hid (Step.refl W)
  have hm : h.prices.length ≤ 9223372036854775807 := by
    obtain ⟨_, r1, _⟩ := rep5 D.house
    exact r1.len
  have hwp : IntKind.i64.wrap ((h.prices.length : Int) - 1) = (h.prices.length : Int) - 1 := by rw [IntKind.wrap_i64]; omega
  clear D hO h5 hb5 hbW hm
  go_enter Try.func78, Try.ntmps78
  cases q1 : withinB s 0 (h.dates.length - 1) with
  | false =>
    have HF := Lib.hid (freeD_no (h := h) (b := b) (s := s) (c := c) (d := d) (by simp [freeOk, q1]))
    have hcall := Lib.hid (show_no HD.out s q1)
    go_wp2_with fail
    refine hcall.out.mono ?_
    clear hcall
    rintro e wn ⟨rfl, hSn⟩
    have HTi := Lib.hid (HT.out.trans hSn)
    clear hSn HT
    have HT := HTi
    clear HTi
    exact ⟨rfl, by rw [HF.out]; exact ⟨rfl, .of HT.out⟩⟩
  | true =>
  have hcall := Lib.hid (show_yes HD.out s q1)
  go_wp2_with fail
  refine hcall.out.mono ?_
  clear hcall
  rintro e wn ⟨rfl, hSn⟩
  have HTi := Lib.hid (HT.out.trans hSn)
  clear hSn HT
  have HT := HTi
  clear HTi
  have Q1 := Lib.hid q1
  clear q1 h1 h2 h3 h4
  have y2 := HT.out.keeps.cell id HC.out.2.1
  have y3 := HT.out.keeps.cell id HC.out.2.2.1
  have y4 := HT.out.keeps.cell id HC.out.2.2.2
  go_wp2_with fail
  refine (within_st _ _ _ _).mono ?_
  rintro e wn ⟨rfl, hSn⟩
  have HTi := Lib.hid (HT.out.trans hSn)
  clear hSn HT
  have HT := HTi
  clear HTi
  clear y2 y3 y4
  cases q2 : withinB c 0 ((h.prices.length : Int) - 1) with
  | false =>
    have HF := Lib.hid (freeD_no (h := h) (b := b) (s := s) (c := c) (d := d) (by simp [freeOk, q2]))
    clear q2
    go_wp2_with fail
    refine (ask_no _ _).mono ?_
    rintro e wn ⟨rfl, hSn⟩
    have HTi := Lib.hid (HT.out.trans hSn)
    clear hSn HT
    have HT := HTi
    clear HTi
    exact ⟨rfl, by rw [HF.out]; exact ⟨rfl, .of HT.out⟩⟩
  | true =>
  have Q2 := Lib.hid q2
  clear q2
  have y4 := HT.out.keeps.cell id HC.out.2.2.2
  go_wp2_with fail
  refine (within_st _ _ _ _).mono ?_
  rintro e wn ⟨rfl, hSn⟩
  have HTi := Lib.hid (HT.out.trans hSn)
  clear hSn HT
  have HT := HTi
  clear HTi
  clear y4
  cases q3 : withinB d 0 1000 with
  | false =>
    have HF := Lib.hid (freeD_no (h := h) (b := b) (s := s) (c := c) (d := d) (by simp [freeOk, q3]))
    clear q3
    go_wp2_with fail
    refine (ask_no _ _).mono ?_
    rintro e wn ⟨rfl, hSn⟩
    have HTi := Lib.hid (HT.out.trans hSn)
    clear hSn HT
    have HT := HTi
    clear HTi
    exact ⟨rfl, by rw [HF.out]; exact ⟨rfl, .of HT.out⟩⟩
  | true =>
  have HF := Lib.hid (freeD_yes (h := h) (b := b) (s := s) (c := c) (d := d) (by simp [freeOk, Q1.out, Q2.out, q3]))
  clear q3
  go_wp2_with fail
  refine (ask_yes _ _).mono ?_
  rintro e wn ⟨rfl, hSn⟩
  have HTi := Lib.hid (HT.out.trans hSn)
  clear hSn HT
  have HT := HTi
  clear HTi
  obtain ⟨i, rfl, hi0, hi1⟩ := within_nat Q1.out (by omega)
  have hi : i < h.dates.length := by omega
  clear hi0 hi1
  have y1 := HT.out.keeps.cell id HC.out.1
  have y2 := HT.out.keeps.cell id HC.out.2.1
  have y4 := HT.out.keeps.cell id HC.out.2.2.2
  have hcall := Lib.hid (open2_any (HD.out.step HT.out) HO.out i hi c d)
  go_wp2_with fail
  refine hcall.out.mono ?_
  rintro e w2 ⟨v', rfl, hv', hS2⟩
  obtain ⟨pv, cv, rfl⟩ := hv'.form
  have HV := Lib.hid hv'
  have HZ := Lib.hid HT.out.size
  have HT2 := Lib.hid (HT.out.trans hS2)
  have hb5 := H5.out.step HT2.out
  have f0 := hb5.cell 0
  have z0 := hb5.frozen 0
  simp only [List.getElem?_cons_zero] at f0
  have HB5 := Lib.hid hb5
  clear hv' hS2 hcall y1 y2 y4 hb5 HT
  go_wp2
  go_end0
  rw [HF.out]
  obtain ⟨hb5, hbW⟩ := HB.out
  have hz := HZ.out
  have hw := Wrote.setCell w2 a5 0 (.slice pv (openL h b i c d).length cv)
  refine ⟨rfl, ⟨w2, ⟨c0, c1, c2, c3, c4, vs, vo, vt, xs, HD.out.step HT2.out⟩, Nat.le_of_eq hw.size.symm, fun j hj => hw.block j (by omega)⟩, ⟨_, HB5.out.setCell 0 _, ?_⟩, (StepX.of HT2.out).setCell ⟨a5, 0, none⟩ _ (.inr rfl)⟩
  exact (HV.out.weak fun j _ hj => by unfold Old; omega).keep (.wrote hw hb5)
theorem DoneEnds.free {h : House} {b : Book} {r : Except Int (Book × List Int)} {w w' : World} {e : Ending} {a3 : Nat} (ha : Bx w a3 [.slice none 0 0] 23)
    (hd : DoneEnds (fun j => j = a3) (doneR h b (bookOf r)) (fun Z => ∃ v', Bx Z a3 [v'] 23 ∧ SL (fun j => j < w.heap.size + 4) Z v' (restOf [] r)) w e w') :
    ∃ v' l', e = .returned (.tuple #[v', .int .i64 (actR (bookOf (gate h b r))).2]) ∧ AV (Old w) w' v' (actR (bookOf (gate h b r))).1 ∧ Bx w' a3 [l'] 23 ∧ SL (Old w) w' l' (restOf [] (gate h b r)) ∧ StepX (fun j => j = a3) w w' := by
  rw [gate_book]
  unfold gate
  by_cases hc : checkR h b = 0
  · rw [if_pos hc]
    rw [show doneR h b (bookOf r) = bookOf r by simp [doneR, hc]] at hd ⊢
    cases r with
    | ok p =>
      obtain ⟨v', h1, h2, ⟨l', h3, h4⟩, h5⟩ := hd
      exact ⟨v', l', h1, h2, h3, h4.weak (fun j _ hj => by unfold Old at hj; omega), h5⟩
    | error c =>
      obtain ⟨v', h1, h2, h3⟩ := hd
      exact ⟨v', _, h1, h2, ha.step h3, SL.nil _ _, .of h3⟩
  · rw [if_neg hc]
    rw [show doneR h b (bookOf r) = .error 1 by simp [doneR, hc]] at hd ⊢
    obtain ⟨v', h1, h2, h3⟩ := hd
    exact ⟨v', _, h1, h2, ha.step h3, SL.nil _ _, .of h3⟩
set_option maxHeartbeats 2000000 in
theorem Free_any (S : Nat → Prop) (h : House) (b : Book) (v u : Value) (s c d : Int) (w : World) (hv : AV S w v h) (hu : AV S w u b) :
    Calls Try.prog 42 #[v, u, .int .i64 s, .int .i64 c, .int .i64 d] w fun e w' => ∃ l', e = .returned (.tuple #[l', .int .i64 (actR (bookOf (gate h b (freeD h b s c d)))).2]) ∧ SL (Old w) w' l' (restOf [] (gate h b (freeD h b s c d))) ∧ Step w w' := by
  obtain ⟨cs, rfl, hr⟩ := hv
  have hr0 := hr
  obtain ⟨c0, c1, c2, c3, c4, rfl, h0, h1, h2, h3, h4⟩ := hr
  obtain ⟨p1, k1, rfl⟩ := h1.form
  obtain ⟨cs, rfl, hq⟩ := hu
  have hq0 := hq
  obtain ⟨d1, d2, d4, rfl, s1, s2, s4⟩ := hq
  obtain ⟨W6, hW6⟩ : ∃ W6, W6 = (((((w.alloc (.cells #[c0, .slice p1 h.prices.length k1, c2, c3, c4] 43)).alloc (.cells #[.int .i64 b.agency, d1, d2, .int .i64 b.sent, d4, .int .i64 b.cash] 36)).alloc (.cells #[.int .i64 s] 3)).alloc (.cells #[.int .i64 c] 3)).alloc (.cells #[.int .i64 d] 3)).alloc (.cells #[.slice none 0 0] 23) := ⟨_, rfl⟩
  have hS : Step w W6 := by subst hW6; exact (by repeat (first | (with_reducible assumption) | (with_reducible exact Step.refl _) | (with_reducible apply Step.s_alloc) | (with_reducible apply Step.s_drew) | (with_reducible apply Step.s_drewN) | (with_reducible refine Step.trans ?_ (by with_reducible assumption))))
  have hb0 : Bx W6 w.heap.size [c0, .slice p1 h.prices.length k1, c2, c3, c4] 43 := by subst hW6; exact (((((Bx.new _ _ _).alloc _).alloc _).alloc _).alloc _).alloc _
  have hb2 : Bx W6 (w.heap.size + 2) [.int .i64 s] 3 := by subst hW6; exact (((Bx.new' _ [_] _ _ (by simp)).alloc _).alloc _).alloc _
  have hb3 : Bx W6 (w.heap.size + 3) [.int .i64 c] 3 := by subst hW6; exact ((Bx.new' _ [_] _ _ (by simp)).alloc _).alloc _
  have hb4 : Bx W6 (w.heap.size + 4) [.int .i64 d] 3 := by subst hW6; exact (Bx.new' _ [_] _ _ (by simp)).alloc _
  have hb5 : Bx W6 (w.heap.size + 5) [.slice none 0 0] 23 := by subst hW6; exact Bx.new' _ [_] _ _ (by simp)
  have hz6 : W6.heap.size = w.heap.size + 6 := by subst hW6; simp
  have hmf : ∀ (fn : Fn) (first cap : Array Value) (w : World), (Instr.makeFunc fn first cap).run Try.prog w = .ok (.func fn first cap) w := fun _ _ _ _ => rfl
  have hold : ∀ j, j < w.heap.size → w.heap.size ≤ j → S j := fun j h1 h2 => by omega
  have hcall := Lib.hid ((done_any (fun j => w.heap.size ≤ j) h b _ _ W6 78 #[.pointer (some ⟨w.heap.size + 2, 0, none⟩), .pointer (some ⟨w.heap.size + 3, 0, none⟩), .pointer (some ⟨w.heap.size, 0, none⟩), .pointer (some ⟨w.heap.size + 4, 0, none⟩), .pointer (some ⟨w.heap.size + 5, 0, none⟩)] (Go.Proofs.enters_of Try.func78 (by kernel_rfl) rfl)
    (fun j => j = w.heap.size + 5) (bookOf (freeD h b s c d)) (fun Z => ∃ v', Bx Z (w.heap.size + 5) [v'] 23 ∧ SL (fun j => j < W6.heap.size + 4) Z v' (restOf [] (freeD h b s c d)))
    ⟨_, rfl, Rep.keep (.of_step hS) (Rep.weak hold hr0)⟩ ⟨_, rfl, Rep.keep (.of_step hS) (Rep.weak hold hq0)⟩ (fun j hj => ⟨by omega, by omega⟩)
    (fun W W' ⟨v', hz, hl⟩ hX => ⟨v', hz.keep hX.keeps (by omega), hl.keep (hX.keeps.mono fun j _ hj => by omega)⟩)
    (fun hck W base g hSW h1 h2 hD => (free1_any hD (okDesk_of hck).1 s c d _ _ _ _ _ ((hb2.step hSW).cell 0) ((hb3.step hSW).cell 0) p1 k1 ((hb0.step hSW).cell 1) ((hb4.step hSW).cell 0) _ (hb5.step hSW) (by omega) h2).mono fun e w' he => by
      cases hrr : freeD h b s c d with
      | ok p =>
        rw [hrr] at he
        obtain ⟨e1, e2, ⟨v', e3, e4⟩, e5⟩ := he
        exact ⟨e1, e2, ⟨v', e3, e4.weak fun j _ hj => by omega⟩, e5⟩
      | error c => rw [hrr] at he; exact he)).mono fun e w' he => he.free hb5)
  have HW := Lib.hid hW6
  have HS := Lib.hid hS
  have HZ6 := Lib.hid hz6
  obtain ⟨p0, k0, rfl⟩ := h0.form
  obtain ⟨p2, k2, rfl⟩ := h2.form
  obtain ⟨p3, k3, rfl⟩ := h3.form
  obtain ⟨p4, k4, rfl⟩ := h4.form
  obtain ⟨q1, m1, rfl⟩ := s1.form
  obtain ⟨q2, m2, rfl⟩ := s2.form
  obtain ⟨q4, m4, rfl⟩ := s4.form
  clear hW6 hS hb0 hb2 hb3 hb4 hb5 hz6 h0 h1 h2 h3 h4 s1 s2 s4 hr0 hq0 hold
  go_enter Try.func42, Try.ntmps42
  go_wp2_with fail
  rw [← HW.out]
  clear HW
  refine hcall.out.mono ?_
  clear hcall
  rintro e w1 ⟨v', l', rfl, hv', hb5, hl', hS1⟩
  generalize hbk : (actR (bookOf (gate h b (freeD h b s c d)))).1 = bk at *
  generalize hec : (actR (bookOf (gate h b (freeD h b s c d)))).2 = ec at *
  have HEC := Lib.hid hec
  obtain ⟨b1, b2, b4, rfl, t1, t2, t4⟩ := hv'.book
  obtain ⟨q1, m1, rfl⟩ := t1.form
  obtain ⟨q2, m2, rfl⟩ := t2.form
  obtain ⟨q4, m4, rfl⟩ := t4.form
  obtain ⟨ql, ml, rfl⟩ := hl'.form
  have HV := Lib.hid hl'
  have y0 := hb5.cell 0
  simp only [List.getElem?_cons_zero] at y0
  have HS1 := Lib.hid hS1
  have hn1 := HZ6.out
  have hn2 := hS1.size
  have hn4 : w.heap.size + 5 < w1.heap.size := by omega
  have hn5 : w.heap.size + 5 ≠ w1.heap.size := by omega
  clear hv' hS1 t1 t2 t4 hb5 hl' hbk hec hn1 hn2
  go_wp2
  go_ret2
  rw [HEC.out]
  have hz6 := HZ6.out
  have hsA := Step.alloc w1 (.cells #[.int .i64 bk.agency, .slice q1 bk.seats.length m1, .slice q2 bk.off.length m2, .int .i64 bk.sent, .slice q4 bk.took.length m4, .int .i64 bk.cash] 36)
  exact ⟨_, rfl, (HV.out.keep (.of_step hsA)).weak fun j _ hj => by unfold Old at *; omega, (StepX.fresh HS.out HS1.out (fun j hj => by omega)).trans hsA⟩
end Go.Proofs.Ytbgfmikbhiblgaa
/- Walks: the reference's Free. -/
namespace Go.Proofs.Ytbgfmikbhiblgaa
set_option linter.unusedSimpArgs false
set_option linter.unusedVariables false
open Go.RowKit Go.BT

def openB (h : House) (b : Book) (s c d : Int) (k : Nat) : List Int := if sellsB h b s d then freeL b s (ofB h c k) else []
theorem openB_end (h : House) (b : Book) (s c d : Int) : openB h b s c d (sizeL h.sectors).toNat = openL h b s c d := rfl
theorem openB_zero (h : House) (b : Book) (s c d : Int) : openB h b s c d 0 = [] := by unfold openB freeL ofB; simp
theorem openB_shut {h : House} {b : Book} {s c d : Int} {k : Nat} (hs : sellsB h b s d = false) : openB h b s c d (k + 1) = openB h b s c d k := by unfold openB; rw [hs]; rfl
theorem openB_miss {h : House} {b : Book} {s c d : Int} {k : Nat} (hk : ¬ classL h.sectors k = c) : openB h b s c d (k + 1) = openB h b s c d k := by unfold openB; rw [ofB_miss hk]
theorem openB_sold {h : House} {b : Book} {s c d : Int} {k : Nat} (hk : classL h.sectors k = c) (hf : ¬ seatAt b s k = 0) : openB h b s c d (k + 1) = openB h b s c d k := by unfold openB; rw [ofB_hit hk, freeL_snoc_no hf]
theorem openB_hit {h : House} {b : Book} {s c d : Int} {k : Nat} (hs : sellsB h b s d = true) (hk : classL h.sectors k = c) (hf : seatAt b s k = 0) : openB h b s c d (k + 1) = openB h b s c d k ++ [(k : Int)] := by unfold openB; rw [ofB_hit hk, freeL_snoc_yes hf, hs]; rfl
theorem openB_len (h : House) (b : Book) (s c d : Int) (k : Nat) : (openB h b s c d k).length ≤ k := by
  unfold openB
  split
  · exact Nat.le_trans (freeL_len _ _ _) (ofB_len _ _ _)
  · exact Nat.zero_le _
set_option maxRecDepth 100000 in
set_option maxHeartbeats 8000000 in
theorem RFree_any (S : Nat → Prop) (h : House) (b : Book) (v u : Value) (i : Nat) (c d : Int) (w : World) (hv : AV S w v h) (hu : AV S w u b) (hok : valid h = true) (hbk : bookB h b = true) (hi : i < h.dates.length) :
    Calls Try.prog 46 #[v, u, .int .i64 i, .int .i64 c, .int .i64 d] w fun e w' => ∃ v', e = .returned v' ∧ SL (Old w) w' v' (openL h b i c d) ∧ Step w w' := by
  obtain ⟨hO, hcash, hc0, hthin⟩ := okDesk_book hok hbk
  obtain ⟨z, hz⟩ : ∃ z : Nat, sizeL h.sectors = z := ⟨(sizeL h.sectors).toNat, by have := size_pos hok; omega⟩
  have hbv := bounds_valid hok
  have hz100 : z ≤ 100 := by omega
  have hz0 : 0 < z := by have := size_pos hok; omega
  have hsec := okSec_valid hok
  have hsn : ∀ j (hj : j < h.sectors.length), 0 ≤ h.sectors[j].seats := fun j hj => (hsec.2 j hj).1
  have hcl : (classesL h.sectors).length = z := by have := classesL_len hsn; omega
  have his : i < b.seats.length := by have := hO.2.2.1; omega
  have hrow : b.seats[i].length = z := by have := hO.2.2.2.1 i his; omega
  obtain ⟨cs, rfl, hr0⟩ := hv
  have hr := hr0
  obtain ⟨c0, c1, c2, c3, c4, rfl, h0, h1, h2, h3, h4⟩ := hr
  obtain ⟨p0, k0, rfl⟩ := h0.form
  obtain ⟨p1, k1, rfl⟩ := h1.form
  obtain ⟨p2, k2, rfl⟩ := h2.form
  obtain ⟨p3, k3, rfl⟩ := h3.form
  obtain ⟨p4, k4, rfl⟩ := h4.form
  obtain ⟨cs, rfl, hq0⟩ := hu
  have hq := hq0
  obtain ⟨d1, d2, d4, rfl, s1, s2, s4⟩ := hq
  obtain ⟨q1, m1, bs, os, rfl, _, _, hp1, hc1, _⟩ := s1.rows
  obtain ⟨q2, m2, rfl⟩ := s2.form
  obtain ⟨q4, m4, rfl⟩ := s4.form
  obtain ⟨W2, hW2⟩ : ∃ W2, W2 = (w.alloc (.cells #[.slice p0 h.sectors.length k0, .slice p1 h.prices.length k1, .slice p2 h.dates.length k2, .slice p3 h.frm.length k3, .slice p4 h.holds.length k4] 26)).alloc (.cells #[.int .i64 b.agency, .slice q1 b.seats.length m1, .slice q2 b.off.length m2, .int .i64 b.sent, .slice q4 b.took.length m4, .int .i64 b.cash] 30) := ⟨_, rfl⟩
  have hbx : Bx W2 w.heap.size [.slice p0 h.sectors.length k0, .slice p1 h.prices.length k1, .slice p2 h.dates.length k2, .slice p3 h.frm.length k3, .slice p4 h.holds.length k4] 26 := by subst hW2; exact (Bx.new _ _ _).alloc _
  have hb2 : Bx W2 (w.heap.size + 1) [.int .i64 b.agency, .slice q1 b.seats.length m1, .slice q2 b.off.length m2, .int .i64 b.sent, .slice q4 b.took.length m4, .int .i64 b.cash] 30 := by subst hW2; exact Bx.new' _ _ _ _ (by simp)
  have hS : Step w W2 := by subst hW2; exact (by repeat (first | (with_reducible assumption) | (with_reducible exact Step.refl _) | (with_reducible apply Step.s_alloc) | (with_reducible apply Step.s_drew) | (with_reducible apply Step.s_drewN) | (with_reducible refine Step.trans ?_ (by with_reducible assumption))))
  have HB1 := Lib.hid hbx
  have HB2 := Lib.hid hb2
  have HR := Lib.hid (Rep.keep (.of_step hS) hr0)
  have HQ := Lib.hid (Rep.keep (.of_step hS) hq0)
  have HS := Lib.hid hS
  have HT := Lib.hid (Step.refl W2)
  have HW := Lib.hid hW2
  have HP1 := Lib.hid (And.intro hp1 hc1)
  clear hp1 hc1 hr0 hq0 h0 h1 h2 h3 h4 s1 s2 s4 hbx hb2 hS hW2
  have HO := Lib.hid hO
  have HZ := Lib.hid hz
  have HSN := Lib.hid hsn
  have HCL := Lib.hid hcl
  have HROWL := Lib.hid hrow
  have hz2 : W2.heap.size = w.heap.size + 2 := by rw [HW.out]; simp
  have HZ2 := Lib.hid hz2
  have hcc := Lib.hid (Classes_any S h _ W2 ⟨_, rfl, HR.out⟩ hsec)
  obtain rfl := HP1.out.1 (by omega)
  obtain ⟨ur, hr1, hr2⟩ := HP1.out.2 i his
  obtain ⟨pr, cr, br, orr, rfl, _, _, hpr, hcr, _⟩ := hr2.ints
  obtain rfl := hpr (by rw [hrow]; exact hz0)
  have hcr2 : ∀ j, j < z → w.cell? ⟨br, orr + j, none⟩ = some (.int .i64 (seatAt b i j)) := fun j hjz => by
    rw [hcr j (by rw [hrow]; exact hjz)]
    simp [seatAt, List.getD_eq_getElem?_getD, his, show j < b.seats[i].length by rw [hrow]; exact hjz]
  rw [hrow] at hr1
  have HROW := Lib.hid (And.intro hr1 hcr2)
  have hx2 : (0 : Int) ≤ (i : Int) ∧ (i : Int) < (b.seats.length : Int) := by omega
  clear hO hcash hc0 hthin hz hbv hsec hsn hcl hrow hz2 hr1 hr2 hpr hcr hcr2
  go_enter Try.func46, Try.ntmps46
  go_wp2_with fail
  rw [← HW.out]
  refine hcc.out.mono ?_
  rintro e wc ⟨vc, rfl, hvc, hSc⟩
  obtain ⟨pc, cc, bc, oc, rfl, _, _, hpc, hccell, _⟩ := hvc.ints
  obtain rfl := hpc (by rw [HCL.out]; exact hz0)
  rw [HCL.out]
  have HCC := Lib.hid (show ∀ k (hk : k < z), wc.cell? ⟨bc, oc + k, none⟩ = some (.int .i64 (classL h.sectors k)) from fun k hk => by
    rw [hccell k (by rw [HCL.out]; exact hk), classesL_get HSN.out])
  have HSC := Lib.hid hSc
  clear hcc hvc hpc hccell hSc
  go_wp2_with fail
  go_loopw [11, 13] (fun out idx wr => ∃ k : Nat, k ≤ z ∧ idx = .int .i64 k ∧ OwnL (Old wc) wc.heap.size 3 wr out (openB h b i c d k) ∧ Below wc.heap.size wc wr) (fun _ idx _ => z - (intOf idx).toNat)
  case atStart => exact ⟨0, Nat.zero_le _, rfl, by rw [openB_zero]; exact OwnL.nil _ _ _ _, Below.refl _ _⟩
  case round =>
    obtain ⟨k, hk, rfl, hown, hB⟩ := hrel
    clear HT
    have HT := Lib.hid (HSC.out.trans (Step.of hB))
    have HO2 := Lib.hid hown
    have HBL := Lib.hid hB
    obtain ⟨pu, cu, rfl, _⟩ := hown.form
    have hkl := openB_len h b i c d k
    clear hown hB
    by_cases hlt : k < z
    · have hix : (0 : Int) ≤ (k : Int) ∧ (k : Int) < (z : Int) := by omega
      obtain ⟨e0, e1, e2, e3, e4⟩ := cells5 (HB1.out.step HT.out)
      obtain ⟨f0, f1, f2, f3, f4, f5⟩ := cells6 (HB2.out.step HT.out)
      go_wp2_with fail
      refine (Sells_any S S h b _ _ _ ⟨_, rfl, Rep.keep (.of_step HT.out) HR.out⟩ ⟨_, rfl, Rep.keep (.of_step HT.out) HQ.out⟩ HO.out i hi d).mono ?_
      rintro e wn ⟨rfl, hSn⟩
      have HTn := Lib.hid (HT.out.trans hSn)
      have HO3 := Lib.hid (HO2.out.step hSn)
      have HB3 := Lib.hid (show Below wc.heap.size wc wn from HBL.out.trans (hSn.below.mono HBL.out.size))
      have HSN2 := Lib.hid hSn.size
      clear e0 e1 e2 e3 e4 f0 f1 f2 f3 f4 f5 HT HO2 HBL hSn
      have HT := HTn
      clear HTn
      cases q1 : sellsB h b i d with
      | false =>
        have HN := Lib.hid (openB_shut (c := c) (k := k) q1)
        clear q1
        go_wp2
        go_roundw
        case rel => exact ⟨k + 1, by omega, by go_num, by rw [HN.out]; exact HO3.out, HB3.out⟩
        case measure => simp [intOf]; omega
      | true =>
        have Q1 := Lib.hid q1
        clear q1
        have g1 := (Step.of HB3.out).keeps.cell (S := fun _ => False) id (HCC.out k hlt)
        obtain ⟨y, hy⟩ : ∃ y, y = classL h.sectors k := ⟨_, rfl⟩
        rw [← hy] at g1
        have HY := Lib.hid hy
        clear hy
        by_cases q2 : y = c
        rotate_left
        · have hd : (y == c) = false := by simpa using q2
          have HN := Lib.hid (openB_miss (b := b) (s := i) (d := d) (show ¬ classL h.sectors k = c by rw [← HY.out]; exact q2))
          go_wp2
          go_roundw
          case rel => exact ⟨k + 1, by omega, by go_num, by rw [HN.out]; exact HO3.out, HB3.out⟩
          case measure => simp [intOf]; omega
        have hd : (y == c) = true := by simpa using q2
        have Q2 := Lib.hid (HY.out.symm.trans q2)
        clear q2
        obtain ⟨f0, f1, f2, f3, f4, f5⟩ := cells6 (HB2.out.step HT.out)
        have r1 := (HS.out.trans HT.out).keeps.cell id HROW.out.1
        have r2 := (HS.out.trans HT.out).keeps.cell id (HROW.out.2 k hlt)
        obtain ⟨x, hx⟩ : ∃ x, x = seatAt b i k := ⟨_, rfl⟩
        rw [← hx] at r2
        have HX := Lib.hid hx
        clear hx
        by_cases q3 : x = 0
        rotate_left
        · have hd3 : (x == 0) = false := by simpa using q3
          have HN := Lib.hid (openB_sold (d := d) Q2.out (show ¬ seatAt b i k = 0 by rw [← HX.out]; exact q3))
          go_wp2
          go_roundw
          case rel => exact ⟨k + 1, by omega, by go_num, by rw [HN.out]; exact HO3.out, HB3.out⟩
          case measure => simp [intOf]; omega
        have hd3 : (x == 0) = true := by simpa using q3
        have HN := Lib.hid (openB_hit Q1.out Q2.out (HX.out.symm.trans q3))
        clear q3
        have hown6 := HO3.out.alloc (.cells #[.int .i64 k] 3)
        have hue := SLe.one (S := avoid (Old wc) (.slice pu (openB h b i c d k).length cu)) (w := wn) (cs := [.int .i64 k]) (x := (k : Int)) 3 rfl
        have hz6 : wc.heap.size ≤ (wn.alloc (.cells #[.int .i64 k] 3)).heap.size := by have := HB3.out.size; simp; omega
        generalize hLL : openB h b i c d k = LL at *
        go_wp2_with (at_builtin; refine wpl_append (α := Int) (S := Old wc) (base := wc.heap.size) (v := .slice pu LL.length cu) (l := LL) (m := [(k : Int)]) eiInts rfl _ _ rfl rfl rfl hown6 hue (LL.length + 1) (by simp) (LL ++ [(k : Int)]) rfl ?_ ?_ hz6 ?_)
        · simp only [maxLen]; omega
        · omega
        intro p' c' w7 hown7 hg7
        have hB7 := (HB3.out.alloc HB3.out.size (.cells #[.int .i64 k] 3)).grown hg7 hz6 (fun g hg => (HO3.out.lt g hg).1)
        have H7 := Lib.hid (And.intro hown7 hB7)
        clear hown6 hue hz6 hown7 hg7 hB7 f0 f1 f2 f3 f4 f5 r1 r2 g1
        go_wp2
        go_roundw
        case rel => exact ⟨k + 1, by omega, by go_num, by rw [HN.out]; exact H7.out.1, H7.out.2⟩
        case measure => simp [intOf]; omega
    · have hkz : k = (sizeL h.sectors).toNat := by have := HZ.out; omega
      have hfin := HO2.out.fresh.weak (T := Old w) (fun j _ hj => by have := HZ2.out; have := HSC.out.size; unfold Old at hj ⊢; omega)
      have HFIN := Lib.hid hfin
      have HKZ := Lib.hid hkz
      clear hfin hkz
      go_wp2
      go_ret
      refine ⟨_, rfl, ?_, HS.out.trans HT.out⟩
      rw [← openB_end, ← HKZ.out]
      exact HFIN.out
end Go.Proofs.Ytbgfmikbhiblgaa
