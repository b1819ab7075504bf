/- Walks and plain laws, part l. -/
import Derived.Test.YtgpiieogiafdoaaMb
import Derived.Test.YtgpiieogiafdoaaMc
import Derived.Test.YtgpiieogiafdoaaMd
import Derived.Test.YtgpiieogiafdoaaMf
import Derived.Test.YtgpiieogiafdoaaMi
import Derived.Test.YtgpiieogiafdoaaRows
/- Walks: the program's Free. -/
namespace Go.Proofs.Ytgpiieogiafdoaa
set_option linter.unusedSimpArgs false
set_option linter.unusedVariables false
open Go.RowKit Go.BT

def freeOk (h : House) (s c d : Int) : Bool := withinB s 0 (h.dates.length - 1) && withinB c 0 (h.prices.length - 1) && withinB d 0 1000
def freeD (h : House) (b : Book) (s c d : Int) : Except Int (Book × List Int) := if freeOk h s c d = true then .ok (b, openL h b s c d) else .error 2
theorem freeD_no {h : House} {b : Book} {s c d : Int} (hc : freeOk h s c d = false) : freeD h b s c d = .error 2 := by simp [freeD, hc]
theorem freeD_yes {h : House} {b : Book} {s c d : Int} (hc : freeOk h s c d = true) : freeD h b s c d = .ok (b, openL h b s c d) := by simp [freeD, hc]
set_option maxHeartbeats 2000000 in
theorem free1_any {base : Nat} {W : World} {g : Nat} {h : House} {b : Book} (hD : DeskE base W g h b) (hO : OkDesk h b) (s c d : Int) (a1 a2 a3 a4 a5 : Nat) (h1 : W.cell? ⟨a1, 0, none⟩ = some (.int .i64 s)) (h2 : W.cell? ⟨a2, 0, none⟩ = some (.int .i64 c)) (p1 : Option Addr) (k1 : Nat) (h3 : W.cell? ⟨a3, 1, none⟩ = some (.slice p1 h.prices.length k1)) (h4 : W.cell? ⟨a4, 0, none⟩ = some (.int .i64 d))
    (y : Value) (h5 : Bx W a5 [y] 23) (hb5 : a5 < base) (hbW : base ≤ W.heap.size) :
    Calls Try.prog 40 #[.pointer (some ⟨g, 0, none⟩), .pointer (some ⟨a1, 0, none⟩), .pointer (some ⟨a2, 0, none⟩), .pointer (some ⟨a3, 0, none⟩), .pointer (some ⟨a4, 0, none⟩), .pointer (some ⟨a5, 0, none⟩)] W (fun e W' => DoEnds base (fun j => j = a5) g h (bookOf (freeD h b s c d)) (fun Z => ∃ v', Bx Z a5 [v'] 23 ∧ SL (fun j => j < base) Z v' (restOf [] (freeD h b s c d))) e W W') := by
  obtain ⟨c0, c1, c2, c3, c4, vs, vo, vt, xs, D⟩ := hD
  have HD := Lib.hid D
  have HO := Lib.hid hO
  have HC := Lib.hid (And.intro h1 (And.intro h2 (And.intro h3 h4)))
  have H5 := Lib.hid h5
  have HB := Lib.hid (And.intro hb5 hbW)
  have HT := Lib.hid (Step.refl W)
  have hm : h.prices.length ≤ 9223372036854775807 := by
    obtain ⟨_, r1, _⟩ := rep5 D.house
    exact r1.len
  have hwp : IntKind.i64.wrap ((h.prices.length : Int) - 1) = (h.prices.length : Int) - 1 := by rw [IntKind.wrap_i64]; omega
  clear D hO h5 hb5 hbW hm
  go_enter Try.func40, Try.ntmps40
  cases q1 : withinB s 0 (h.dates.length - 1) with
  | false =>
    have HF := Lib.hid (freeD_no (h := h) (b := b) (s := s) (c := c) (d := d) (by simp [freeOk, q1]))
    have hcall := Lib.hid (show_no HD.out s q1)
    go_wp2_with fail
    refine hcall.out.mono ?_
    clear hcall
    rintro e wn ⟨rfl, hSn⟩
    have HTi := Lib.hid (HT.out.trans hSn)
    clear hSn HT
    have HT := HTi
    clear HTi
    exact ⟨rfl, by rw [HF.out]; exact ⟨rfl, .of HT.out⟩⟩
  | true =>
  have hcall := Lib.hid (show_yes HD.out s q1)
  go_wp2_with fail
  refine hcall.out.mono ?_
  clear hcall
  rintro e wn ⟨rfl, hSn⟩
  have HTi := Lib.hid (HT.out.trans hSn)
  clear hSn HT
  have HT := HTi
  clear HTi
  have Q1 := Lib.hid q1
  clear q1 h1 h2 h3 h4
  have y2 := HT.out.keeps.cell id HC.out.2.1
  have y3 := HT.out.keeps.cell id HC.out.2.2.1
  have y4 := HT.out.keeps.cell id HC.out.2.2.2
  go_wp2_with fail
  refine (within_st _ _ _ _).mono ?_
  rintro e wn ⟨rfl, hSn⟩
  have HTi := Lib.hid (HT.out.trans hSn)
  clear hSn HT
  have HT := HTi
  clear HTi
  clear y2 y3 y4
  cases q2 : withinB c 0 ((h.prices.length : Int) - 1) with
  | false =>
    have HF := Lib.hid (freeD_no (h := h) (b := b) (s := s) (c := c) (d := d) (by simp [freeOk, q2]))
    clear q2
    go_wp2_with fail
    refine (ask_no _ _).mono ?_
    rintro e wn ⟨rfl, hSn⟩
    have HTi := Lib.hid (HT.out.trans hSn)
    clear hSn HT
    have HT := HTi
    clear HTi
    exact ⟨rfl, by rw [HF.out]; exact ⟨rfl, .of HT.out⟩⟩
  | true =>
  have Q2 := Lib.hid q2
  clear q2
  have y4 := HT.out.keeps.cell id HC.out.2.2.2
  go_wp2_with fail
  refine (within_st _ _ _ _).mono ?_
  rintro e wn ⟨rfl, hSn⟩
  have HTi := Lib.hid (HT.out.trans hSn)
  clear hSn HT
  have HT := HTi
  clear HTi
  clear y4
  cases q3 : withinB d 0 1000 with
  | false =>
    have HF := Lib.hid (freeD_no (h := h) (b := b) (s := s) (c := c) (d := d) (by simp [freeOk, q3]))
    clear q3
    go_wp2_with fail
    refine (ask_no _ _).mono ?_
    rintro e wn ⟨rfl, hSn⟩
    have HTi := Lib.hid (HT.out.trans hSn)
    clear hSn HT
    have HT := HTi
    clear HTi
    exact ⟨rfl, by rw [HF.out]; exact ⟨rfl, .of HT.out⟩⟩
  | true =>
  have HF := Lib.hid (freeD_yes (h := h) (b := b) (s := s) (c := c) (d := d) (by simp [freeOk, Q1.out, Q2.out, q3]))
  clear q3
  go_wp2_with fail
  refine (ask_yes _ _).mono ?_
  rintro e wn ⟨rfl, hSn⟩
  have HTi := Lib.hid (HT.out.trans hSn)
  clear hSn HT
  have HT := HTi
  clear HTi
  obtain ⟨i, rfl, hi0, hi1⟩ := within_nat Q1.out (by omega)
  have hi : i < h.dates.length := by omega
  clear hi0 hi1
  have y1 := HT.out.keeps.cell id HC.out.1
  have y2 := HT.out.keeps.cell id HC.out.2.1
  have y4 := HT.out.keeps.cell id HC.out.2.2.2
  have hcall := Lib.hid (open2_any (HD.out.step HT.out) HO.out i hi c d)
  go_wp2_with fail
  refine hcall.out.mono ?_
  rintro e w2 ⟨v', rfl, hv', hS2⟩
  obtain ⟨pv, cv, rfl⟩ := hv'.form
  have HV := Lib.hid hv'
  have HZ := Lib.hid HT.out.size
  have HT2 := Lib.hid (HT.out.trans hS2)
  have hb5 := H5.out.step HT2.out
  have f0 := hb5.cell 0
  have z0 := hb5.frozen 0
  simp only [List.getElem?_cons_zero] at f0
  have HB5 := Lib.hid hb5
  clear hv' hS2 hcall y1 y2 y4 hb5 HT
  go_wp2
  go_end0
  rw [HF.out]
  obtain ⟨hb5, hbW⟩ := HB.out
  have hz := HZ.out
  have hw := Wrote.setCell w2 a5 0 (.slice pv (openL h b i c d).length cv)
  refine ⟨rfl, ⟨w2, ⟨c0, c1, c2, c3, c4, vs, vo, vt, xs, HD.out.step HT2.out⟩, Nat.le_of_eq hw.size.symm, fun j hj => hw.block j (by omega)⟩, ⟨_, HB5.out.setCell 0 _, ?_⟩, (StepX.of HT2.out).setCell ⟨a5, 0, none⟩ _ (.inr rfl)⟩
  exact (HV.out.weak fun j _ hj => by unfold Old; omega).keep (.wrote hw hb5)
theorem DoneEnds.free {h : House} {b : Book} {r : Except Int (Book × List Int)} {w w' : World} {e : Ending} {a3 : Nat} (ha : Bx w a3 [.slice none 0 0] 23)
    (hd : DoneEnds (fun j => j = a3) (doneR h b (bookOf r)) (fun Z => ∃ v', Bx Z a3 [v'] 23 ∧ SL (fun j => j < w.heap.size + 4) Z v' (restOf [] r)) w e w') :
    ∃ v' l', e = .returned (.tuple #[v', .int .i64 (actR (bookOf (gate h b r))).2]) ∧ AV (Old w) w' v' (actR (bookOf (gate h b r))).1 ∧ Bx w' a3 [l'] 23 ∧ SL (Old w) w' l' (restOf [] (gate h b r)) ∧ StepX (fun j => j = a3) w w' := by
  rw [gate_book]
  unfold gate
  by_cases hc : checkR h b = 0
  · rw [if_pos hc]
    rw [show doneR h b (bookOf r) = bookOf r by simp [doneR, hc]] at hd ⊢
    cases r with
    | ok p =>
      obtain ⟨v', h1, h2, ⟨l', h3, h4⟩, h5⟩ := hd
      exact ⟨v', l', h1, h2, h3, h4.weak (fun j _ hj => by unfold Old at hj; omega), h5⟩
    | error c =>
      obtain ⟨v', h1, h2, h3⟩ := hd
      exact ⟨v', _, h1, h2, ha.step h3, SL.nil _ _, .of h3⟩
  · rw [if_neg hc]
    rw [show doneR h b (bookOf r) = .error 1 by simp [doneR, hc]] at hd ⊢
    obtain ⟨v', h1, h2, h3⟩ := hd
    exact ⟨v', _, h1, h2, ha.step h3, SL.nil _ _, .of h3⟩
set_option maxHeartbeats 2000000 in
theorem Free_any (S : Nat → Prop) (h : House) (b : Book) (v u : Value) (s c d : Int) (w : World) (hv : AV S w v h) (hu : AV S w u b) :
    Calls Try.prog 17 #[v, u, .int .i64 s, .int .i64 c, .int .i64 d] w fun e w' => ∃ l', e = .returned (.tuple #[l', .int .i64 (actR (bookOf (gate h b (freeD h b s c d)))).2]) ∧ SL (Old w) w' l' (restOf [] (gate h b (freeD h b s c d))) ∧ Step w w' := by
  obtain ⟨cs, rfl, hr⟩ := hv
  have hr0 := hr
  obtain ⟨c0, c1, c2, c3, c4, rfl, h0, h1, h2, h3, h4⟩ := hr
  obtain ⟨p1, k1, rfl⟩ := h1.form
  obtain ⟨cs, rfl, hq⟩ := hu
  have hq0 := hq
  obtain ⟨d1, d2, d4, rfl, s1, s2, s4⟩ := hq
  obtain ⟨W6, hW6⟩ : ∃ W6, W6 = (((((w.alloc (.cells #[c0, .slice p1 h.prices.length k1, c2, c3, c4] 47)).alloc (.cells #[.int .i64 b.agency, d1, d2, .int .i64 b.sent, d4, .int .i64 b.cash] 39)).alloc (.cells #[.int .i64 s] 3)).alloc (.cells #[.int .i64 c] 3)).alloc (.cells #[.int .i64 d] 3)).alloc (.cells #[.slice none 0 0] 23) := ⟨_, rfl⟩
  have hS : Step w W6 := by subst hW6; exact (by repeat (first | (with_reducible assumption) | (with_reducible exact Step.refl _) | (with_reducible apply Step.s_alloc) | (with_reducible apply Step.s_drew) | (with_reducible apply Step.s_drewN) | (with_reducible refine Step.trans ?_ (by with_reducible assumption))))
  have hb0 : Bx W6 w.heap.size [c0, .slice p1 h.prices.length k1, c2, c3, c4] 47 := by subst hW6; exact (((((Bx.new _ _ _).alloc _).alloc _).alloc _).alloc _).alloc _
  have hb2 : Bx W6 (w.heap.size + 2) [.int .i64 s] 3 := by subst hW6; exact (((Bx.new' _ [_] _ _ (by simp)).alloc _).alloc _).alloc _
  have hb3 : Bx W6 (w.heap.size + 3) [.int .i64 c] 3 := by subst hW6; exact ((Bx.new' _ [_] _ _ (by simp)).alloc _).alloc _
  have hb4 : Bx W6 (w.heap.size + 4) [.int .i64 d] 3 := by subst hW6; exact (Bx.new' _ [_] _ _ (by simp)).alloc _
  have hb5 : Bx W6 (w.heap.size + 5) [.slice none 0 0] 23 := by subst hW6; exact Bx.new' _ [_] _ _ (by simp)
  have hz6 : W6.heap.size = w.heap.size + 6 := by subst hW6; simp
  have hmf : ∀ (fn : Fn) (first cap : Array Value) (w : World), (Instr.makeFunc fn first cap).run Try.prog w = .ok (.func fn first cap) w := fun _ _ _ _ => rfl
  have hold : ∀ j, j < w.heap.size → w.heap.size ≤ j → S j := fun j h1 h2 => by omega
  have hcall := Lib.hid ((done_any (fun j => w.heap.size ≤ j) h b _ _ W6 40 #[.pointer (some ⟨w.heap.size + 2, 0, none⟩), .pointer (some ⟨w.heap.size + 3, 0, none⟩), .pointer (some ⟨w.heap.size, 0, none⟩), .pointer (some ⟨w.heap.size + 4, 0, none⟩), .pointer (some ⟨w.heap.size + 5, 0, none⟩)] (Go.Proofs.enters_of Try.func40 (by kernel_rfl) rfl)
    (fun j => j = w.heap.size + 5) (bookOf (freeD h b s c d)) (fun Z => ∃ v', Bx Z (w.heap.size + 5) [v'] 23 ∧ SL (fun j => j < W6.heap.size + 4) Z v' (restOf [] (freeD h b s c d)))
    ⟨_, rfl, Rep.keep (.of_step hS) (Rep.weak hold hr0)⟩ ⟨_, rfl, Rep.keep (.of_step hS) (Rep.weak hold hq0)⟩ (fun j hj => ⟨by omega, by omega⟩)
    (fun W W' ⟨v', hz, hl⟩ hX => ⟨v', hz.keep hX.keeps (by omega), hl.keep (hX.keeps.mono fun j _ hj => by omega)⟩)
    (fun hck W base g hSW h1 h2 hD => (free1_any hD (okDesk_of hck).1 s c d _ _ _ _ _ ((hb2.step hSW).cell 0) ((hb3.step hSW).cell 0) p1 k1 ((hb0.step hSW).cell 1) ((hb4.step hSW).cell 0) _ (hb5.step hSW) (by omega) h2).mono fun e w' he => by
      cases hrr : freeD h b s c d with
      | ok p =>
        rw [hrr] at he
        obtain ⟨e1, e2, ⟨v', e3, e4⟩, e5⟩ := he
        exact ⟨e1, e2, ⟨v', e3, e4.weak fun j _ hj => by omega⟩, e5⟩
      | error c => rw [hrr] at he; exact he)).mono fun e w' he => he.free hb5)
  have HW := Lib.hid hW6
  have HS := Lib.hid hS
  have HZ6 := Lib.hid hz6
  obtain ⟨p0, k0, rfl⟩ := h0.form
  obtain ⟨p2, k2, rfl⟩ := h2.form
  obtain ⟨p3, k3, rfl⟩ := h3.form
  obtain ⟨p4, k4, rfl⟩ := h4.form
  obtain ⟨q1, m1, rfl⟩ := s1.form
  obtain ⟨q2, m2, rfl⟩ := s2.form
  obtain ⟨q4, m4, rfl⟩ := s4.form
  clear hW6 hS hb0 hb2 hb3 hb4 hb5 hz6 h0 h1 h2 h3 h4 s1 s2 s4 hr0 hq0 hold
  go_enter Try.func17, Try.ntmps17
  go_wp2_with fail
  rw [← HW.out]
  clear HW
  refine hcall.out.mono ?_
  clear hcall
  rintro e w1 ⟨v', l', rfl, hv', hb5, hl', hS1⟩
  generalize hbk : (actR (bookOf (gate h b (freeD h b s c d)))).1 = bk at *
  generalize hec : (actR (bookOf (gate h b (freeD h b s c d)))).2 = ec at *
  have HEC := Lib.hid hec
  obtain ⟨b1, b2, b4, rfl, t1, t2, t4⟩ := hv'.book
  obtain ⟨q1, m1, rfl⟩ := t1.form
  obtain ⟨q2, m2, rfl⟩ := t2.form
  obtain ⟨q4, m4, rfl⟩ := t4.form
  obtain ⟨ql, ml, rfl⟩ := hl'.form
  have HV := Lib.hid hl'
  have y0 := hb5.cell 0
  simp only [List.getElem?_cons_zero] at y0
  have HS1 := Lib.hid hS1
  have hn1 := HZ6.out
  have hn2 := hS1.size
  have hn4 : w.heap.size + 5 < w1.heap.size := by omega
  have hn5 : w.heap.size + 5 ≠ w1.heap.size := by omega
  clear hv' hS1 t1 t2 t4 hb5 hl' hbk hec hn1 hn2
  go_wp2
  go_ret2
  rw [HEC.out]
  have hz6 := HZ6.out
  have hsA := Step.alloc w1 (.cells #[.int .i64 bk.agency, .slice q1 bk.seats.length m1, .slice q2 bk.off.length m2, .int .i64 bk.sent, .slice q4 bk.took.length m4, .int .i64 bk.cash] 39)
  exact ⟨_, rfl, (HV.out.keep (.of_step hsA)).weak fun j _ hj => by unfold Old at *; omega, (StepX.fresh HS.out HS1.out (fun j hj => by omega)).trans hsA⟩
end Go.Proofs.Ytgpiieogiafdoaa
/- Plain: what the law TicketMoved asks: where the buyers of a lost show go, and that no other buyer loses a seat. -/
namespace Go.Proofs.Ytgpiieogiafdoaa
set_option linter.unusedSimpArgs false
set_option linter.unusedVariables false
open Go.RowKit Go.BT
/-- The seats of a show, up to k, that have a buyer. -/
def posL (b : Book) (i k : Nat) : List Nat := (List.range k).filter fun (j : Nat) => decide (0 < seatAt b i j)
theorem posL_yes {b : Book} {i k : Nat} (h : 0 < seatAt b i k) : posL b i (k + 1) = posL b i k ++ [k] := by simp [posL, List.range_succ, List.filter_append, h]
theorem posL_no {b : Book} {i k : Nat} (h : ¬ 0 < seatAt b i k) : posL b i (k + 1) = posL b i k := by simp [posL, List.range_succ, List.filter_append, h]
theorem posL_pre {b : Book} {i : Nat} {k : Nat} : ∀ {m : Nat}, k ≤ m → posL b i k <+: posL b i m
  | 0, hk => by rw [show k = 0 by omega]; exact List.prefix_refl _
  | m + 1, hk => by
    by_cases e : k = m + 1
    · rw [e]; exact List.prefix_refl _
    · have ih := posL_pre (b := b) (i := i) (k := k) (m := m) (by omega)
      by_cases h : 0 < seatAt b i m
      · rw [posL_yes h]; exact ih.trans (List.prefix_append _ _)
      · rw [posL_no h]; exact ih
theorem posL_at {b : Book} {i k m : Nat} (h : 0 < seatAt b i k) (hk : k < m) : ∃ hl : (posL b i k).length < (posL b i m).length, (posL b i m)[(posL b i k).length] = k := by
  have hp := posL_pre (b := b) (i := i) (show k + 1 ≤ m by omega)
  rw [posL_yes h] at hp
  obtain ⟨t, ht⟩ := hp
  refine ⟨by rw [← ht]; simp, ?_⟩
  have : ∀ (l : List Nat) (hl : (posL b i k).length < l.length), l = posL b i k ++ [k] ++ t → l[(posL b i k).length] = k := by
    intro l hl e
    subst e
    simp
  exact this _ _ ht.symm
theorem posL_len (b : Book) (i k : Nat) : (posL b i k).length ≤ k := by
  have := List.length_filter_le (fun (j : Nat) => decide (0 < seatAt b i j)) (List.range k)
  simpa [posL] using this
theorem openL_mem {h : House} {b : Book} {s c d k : Int} (hk : k ∈ openL h b s c d) : sellsB h b s d = true ∧ 0 ≤ k ∧ k < sizeL h.sectors ∧ seatAt b s k = 0 ∧ classL h.sectors k = c := by
  have hm := freeL_mem hk
  unfold openL at hk
  split at hk
  · rename_i hs
    refine ⟨hs, hm.1, hm.2.1, hm.2.2, ?_⟩
    simp only [freeL, ofL, ofB, List.mem_map, List.mem_filter, List.mem_range, decide_eq_true_eq] at hk
    obtain ⟨n, ⟨⟨h1, h2⟩, h3⟩, rfl⟩ := hk
    exact h2
  · cases hk
theorem placeL_none {h : House} {b : Book} {c d : Int} : ∀ {m s : Nat}, placeL h b c d s m = none → ∀ p, s ≤ p → p < s + m → openL h b p c d = []
  | 0, s, _, p, h1, h2 => by omega
  | m + 1, s, hr, p, h1, h2 => by
    cases ho : openL h b s c d with
    | cons k l => rw [placeL_hit ho] at hr; cases hr
    | nil =>
      rw [placeL_skip ho] at hr
      by_cases e : p = s
      · subst e; exact ho
      · exact placeL_none hr p (by omega) (by omega)
/-- What was shut stays shut where seats only fill. -/
theorem openL_less {h : House} {b b' : Book} {s c d : Int} (ho : b'.off = b.off) (ha : b'.agency = b.agency) (hs : ∀ q : Nat, seatAt b' s q = 0 → seatAt b s q = 0) (he : openL h b s c d = []) : openL h b' s c d = [] := by
  rw [List.eq_nil_iff_forall_not_mem]
  intro k hk
  obtain ⟨h1, h2, h3, h4, h5⟩ := openL_mem hk
  obtain ⟨n, rfl⟩ : ∃ n : Nat, k = n := ⟨k.toNat, by omega⟩
  have hsb : sellsB h b s d = true := by
    unfold sellsB offAt at h1 ⊢
    rw [ho, ha] at h1
    exact h1
  have : (n : Int) ∈ openL h b s c d := by
    unfold openL
    rw [if_pos hsb]
    simp only [freeL, ofL, ofB, List.mem_map, List.mem_filter, List.mem_range, decide_eq_true_eq]
    exact ⟨n, ⟨⟨by omega, h5⟩, hs n h4⟩, rfl⟩
  rw [he] at this
  cases this
theorem at_put {b : Book} {i j : Nat} {x : Int} (hi : i < b.seats.length) (hj : j < b.seats[i].length) (s q : Nat) : seatAt (putSeat b i j x) s q = if s = i ∧ q = j then x else seatAt b s q := by
  by_cases e : s = i ∧ q = j
  · obtain ⟨rfl, rfl⟩ := e
    rw [if_pos ⟨rfl, rfl⟩]; exact seatAt_putI hi hj
  · rw [if_neg e]; exact seatAt_put_ne (by omega)
structure MovedTo (h : House) (b : Book) (i : Nat) (d : Int) (B : Book) (M : List BT.Move) (k : Nat) : Prop where
  rowI : ∀ q : Nat, seatAt B i q = if q < k ∧ 0 < seatAt b i q then 0 else seatAt b i q
  keep : ∀ s q : Nat, s ≠ i → seatAt b s q ≠ 0 → seatAt B s q = seatAt b s q
  move : ∀ m ∈ M, ∃ j : Nat, m.seat = j ∧ j < k ∧ 0 < seatAt b i j ∧ ((m.shw = -1 ∧ ∀ s : Nat, i < s → s < h.dates.length → openL h B s (classL h.sectors j) d = []) ∨
    ∃ p q : Nat, m.shw = p ∧ m.at_ = q ∧ i < p ∧ p < h.dates.length ∧ (q : Int) < sizeL h.sectors ∧ classL h.sectors q = classL h.sectors j ∧ seatAt b p q = 0 ∧ seatAt B p q = seatAt b i j ∧ offAt b p = false)
  seats : M.map (·.seat) = (posL b i k).map fun (j : Nat) => (j : Int)
theorem moved_to {h : House} {b : Book} (hv : valid h = true) (hb : bookB h b = true) {i : Nat} (hi : i < h.dates.length) (d : Int) : ∀ k : Nat, (k : Int) ≤ sizeL h.sectors →
    MovedTo h b i d (loseTo h (offBook b i) i d k).1 (loseTo h (offBook b i) i d k).2 k
  | 0, _ => ⟨fun q => by simp [loseTo]; rfl, fun s q _ _ => rfl, fun m hm => by simp [loseTo] at hm, by simp [loseTo, posL]⟩
  | k + 1, hk => by
    have ih := moved_to hv hb hi d k (by omega)
    have hbo := off_valid hb i
    obtain ⟨hO2, hc2, hc0, _⟩ := okDesk_book hv hbo
    have hL := like_to hO2 hc0 i d k (by omega)
    have hK := lose_keep (h := h) i d _ (book_iff.1 hbo).2.1 k
    generalize hB : (loseTo h (offBook b i) i d k).1 = B at *
    generalize hM : (loseTo h (offBook b i) i d k).2 = M at *
    have hlenB : B.seats.length = h.dates.length := by rw [hL.seats]; exact hO2.2.2.1
    have hrow : ∀ s (hs : s < B.seats.length), (B.seats[s].length : Int) = sizeL h.sectors := fun s hs => by
      rw [hL.row s (by rw [← hL.seats]; exact hs) hs]
      exact hO2.2.2.2.1 s _
    have hik : ∃ hi' : i < B.seats.length, k < B.seats[i].length := ⟨by omega, by have := hrow i (by omega); omega⟩
    obtain ⟨hi', hik'⟩ := hik
    have hy : seatAt B i k = seatAt b i k := by rw [ih.rowI k, if_neg (by omega)]
    by_cases hp : 0 < seatAt B i k
    rotate_left
    · have he : loseTo h (offBook b i) i d (k + 1) = (B, M) := by
        rw [loseTo_no (by rw [hB]; exact hp), ← hB, ← hM]
      rw [he]
      have hpb : ¬ 0 < seatAt b i k := by rw [← hy]; exact hp
      refine ⟨fun q => ?_, ih.keep, fun m hm => ?_, by rw [posL_no hpb]; exact ih.seats⟩
      · rw [ih.rowI q]
        by_cases e : q = k
        · subst e; rw [if_neg (by omega), if_neg (by omega)]
        · by_cases g : q < k ∧ 0 < seatAt b i q
          · rw [if_pos g, if_pos ⟨by omega, g.2⟩]
          · rw [if_neg g, if_neg (by omega)]
      · obtain ⟨j, a1, a2, a3⟩ := ih.move m hm
        exact ⟨j, a1, by omega, a3⟩
    · have he : loseTo h (offBook b i) i d (k + 1) = ((loseOne h B i d k (seatAt B i k)).1, M ++ [(loseOne h B i d k (seatAt B i k)).2]) := by
        rw [loseTo_yes (by rw [hB]; exact hp), hB, hM]
      have hpb : 0 < seatAt b i k := by rw [← hy]; exact hp
      rw [he]
      unfold loseOne
      cases hpl : placeL h B (classL h.sectors k) d (i + 1) (h.dates.length - (i + 1)) with
      | none =>
        have hno := placeL_none hpl
        have hcells : ∀ s q : Nat, seatAt (putSeat { B with cash := B.cash - priceL h k } i k 0) s q = if s = i ∧ q = k then 0 else seatAt B s q := fun s q => at_put (b := { B with cash := B.cash - priceL h k }) hi' hik' s q
        have hless : ∀ (s : Nat) (c : Int), s ≠ i → openL h B s c d = [] → openL h (putSeat { B with cash := B.cash - priceL h k } i k 0) s c d = [] := fun s c hs ho => openL_less (b := B) rfl rfl (fun q hq => by rw [hcells s q, if_neg (by omega)] at hq; exact hq) ho
        refine ⟨fun q => ?_, fun s q hs hq => ?_, fun m hm => ?_, ?_⟩
        · show seatAt (putSeat { B with cash := B.cash - priceL h k } i k 0) i q = _
          rw [hcells i q]
          by_cases e : q = k
          · subst e; rw [if_pos ⟨rfl, rfl⟩, if_pos ⟨by omega, hpb⟩]
          · rw [if_neg (by omega), ih.rowI q]
            by_cases g : q < k ∧ 0 < seatAt b i q
            · rw [if_pos g, if_pos ⟨by omega, g.2⟩]
            · rw [if_neg g, if_neg (by omega)]
        · show seatAt (putSeat { B with cash := B.cash - priceL h k } i k 0) s q = _
          rw [hcells s q, if_neg (by omega)]
          exact ih.keep s q hs hq
        · show ∃ j : Nat, _
          rcases List.mem_append.1 hm with hm | hm
          · obtain ⟨j, a1, a2, a3, a4⟩ := ih.move m hm
            refine ⟨j, a1, by omega, a3, ?_⟩
            rcases a4 with ⟨b1, b2⟩ | ⟨p, q, b1, b2, b3, b4, b5, b6, b7, b8, b9⟩
            · exact .inl ⟨b1, fun s hs hd => hless s _ (by omega) (b2 s hs hd)⟩
            · exact .inr ⟨p, q, b1, b2, b3, b4, b5, b6, b7, by rw [hcells p q, if_neg (by omega)]; exact b8, b9⟩
          · have hm := List.mem_singleton.1 hm
            subst hm
            exact ⟨k, rfl, by omega, hpb, .inl ⟨rfl, fun s hs hd => hless s _ (by omega) (hno s (by omega) (by omega))⟩⟩
        · rw [posL_yes hpb, List.map_append, List.map_append, ih.seats]; rfl
      | some r =>
        obtain ⟨p, j⟩ := r
        obtain ⟨c1, c2, c3⟩ := placeL_some hpl
        obtain ⟨d1, d2, d3, d4, d5⟩ := openL_mem c3
        simp only at c1 c2 c3 d1 d2 d3 d4 d5
        obtain ⟨j, rfl⟩ : ∃ n : Nat, j = n := ⟨j.toNat, by omega⟩
        have hp' : p < B.seats.length := by omega
        have hpj : j < B.seats[p].length := by have := hrow p hp'; omega
        have hb1 : seatAt b p j = 0 := by
          apply Classical.byContradiction
          intro hq
          have := ih.keep p j (by omega) hq
          omega
        have hoff : offAt b p = false := by
          unfold sellsB at d1
          simp only [Bool.and_eq_true, Bool.not_eq_true'] at d1
          have hq := d1.1
          unfold offAt at hq ⊢
          rw [hK.1] at hq
          simpa [offBook, List.getD_eq_getElem?_getD, List.getElem?_set, show i ≠ p by omega] using hq
        have hcells : ∀ s q : Nat, seatAt (putSeat (putSeat B p j (seatAt B i k)) i k 0) s q = if s = i ∧ q = k then 0 else if s = p ∧ q = j then seatAt B i k else seatAt B s q := fun s q => by
          have hl : i < (putSeat B p j (seatAt B i k)).seats.length := by simpa [putSeat] using hi'
          rw [at_put hl (by rw [putSeat_len hi' hl]; exact hik'), at_put hp' hpj]
        have hless : ∀ (s : Nat) (c : Int), s ≠ i → openL h B s c d = [] → openL h (putSeat (putSeat B p j (seatAt B i k)) i k 0) s c d = [] := fun s c hs ho => openL_less (b := B) rfl rfl (fun q hq => by
          rw [hcells s q, if_neg (by omega)] at hq
          split at hq
          · omega
          · exact hq) ho
        show MovedTo h b i d (putSeat (putSeat B p ((j : Int)).toNat (seatAt B i k)) i k 0) (M ++ [⟨k, p, j⟩]) (k + 1)
        rw [Int.toNat_natCast]
        refine ⟨fun q => ?_, fun s q hs hq => ?_, fun m hm => ?_, ?_⟩
        · rw [hcells i q]
          by_cases e : q = k
          · subst e; rw [if_pos ⟨rfl, rfl⟩, if_pos ⟨by omega, hpb⟩]
          · rw [if_neg (by omega), if_neg (by omega), ih.rowI q]
            by_cases g : q < k ∧ 0 < seatAt b i q
            · rw [if_pos g, if_pos ⟨by omega, g.2⟩]
            · rw [if_neg g, if_neg (by omega)]
        · rw [hcells s q, if_neg (by omega), if_neg ?_]
          · exact ih.keep s q hs hq
          · rintro ⟨rfl, rfl⟩
            exact hq hb1
        · rcases List.mem_append.1 hm with hm | hm
          · obtain ⟨j', a1, a2, a3, a4⟩ := ih.move m hm
            refine ⟨j', a1, by omega, a3, ?_⟩
            rcases a4 with ⟨b1, b2⟩ | ⟨p', q', b1, b2, b3, b4, b5, b6, b7, b8, b9⟩
            · exact .inl ⟨b1, fun s hs hd => hless s _ (by omega) (b2 s hs hd)⟩
            · refine .inr ⟨p', q', b1, b2, b3, b4, b5, b6, b7, ?_, b9⟩
              rw [hcells p' q', if_neg (by omega), if_neg]
              · exact b8
              · rintro ⟨rfl, rfl⟩
                omega
          · have hm := List.mem_singleton.1 hm
            subst hm
            exact ⟨k, rfl, by omega, hpb, .inr ⟨p, j, rfl, rfl, by omega, by omega, d3, d5, hb1, by rw [hcells p j, if_neg (by omega), if_pos ⟨rfl, rfl⟩, hy], hoff⟩⟩
        · rw [posL_yes hpb, List.map_append, List.map_append, ih.seats]; rfl
/-- What becomes of a book whose show is lost. -/
theorem lose_moved {h : House} {b x : Book} {s d : Int} {l : List BT.Move} (hv : valid h = true) (hb : bookB h b = true) (hr : loseD h b s d = .ok (x, l)) :
    ∃ i : Nat, s = i ∧ i < h.dates.length ∧ withinB d 0 1000 = true ∧ bookB h x = true ∧ x.off = b.off.set i true ∧ ∃ n : Nat, sizeL h.sectors = n ∧ MovedTo h b i d x l n := by
  obtain ⟨i, rfl, hi, hd, _, hl⟩ := loseD_ok hr
  have hv2 := lose_valid hv hb (s := (i : Int)) (d := d) (b' := x) (by rw [hr]; rfl)
  have hO := (okDesk_book hv hb).1
  have hil : i < b.seats.length := by have := hO.2.2.1; omega
  have hz := rows_len hv hb hil
  have hn : ((b.seats.getD i []).length : Int) = sizeL h.sectors := by simpa [List.getD_eq_getElem?_getD, hil] using hz
  have hm := moved_to hv hb (i := i) (by omega) d (b.seats.getD i []).length (by omega)
  have hk := lose_keep (h := h) i d _ (book_iff.1 (off_valid hb i)).2.1 (b.seats.getD i []).length
  rw [hl] at hm hk
  exact ⟨i, rfl, by omega, hd, hv2.1, hk.1, _, hn.symm, hm⟩
/-- The move of a buyer. -/
theorem moved_at {h : House} {b x : Book} {i n : Nat} {d : Int} {l : List BT.Move} (hm : MovedTo h b i d x l n) {j : Nat} (hj : j < n) (hp : 0 < seatAt b i j) :
    ∃ hl : (posL b i j).length < l.length, l[(posL b i j).length].seat = j := by
  obtain ⟨h1, h2⟩ := posL_at hp hj
  have hlen : l.length = (posL b i n).length := by have := congrArg List.length hm.seats; simpa using this
  refine ⟨by omega, ?_⟩
  have := hm.seats
  have h3 : (l.map (·.seat))[(posL b i j).length]? = ((posL b i n).map fun (j : Nat) => (j : Int))[(posL b i j).length]? := by rw [this]
  rw [List.getElem?_map, List.getElem?_map, List.getElem?_eq_getElem (by omega), List.getElem?_eq_getElem h1, h2] at h3
  simpa using h3
theorem moved_len {h : House} {b x : Book} {i n : Nat} {d : Int} {l : List BT.Move} (hm : MovedTo h b i d x l n) : l.length = (posL b i n).length := by have := congrArg List.length hm.seats; simpa using this
end Go.Proofs.Ytgpiieogiafdoaa
/- Plain: the numbers of a book's seats in memory; no free seat is left where money went back. -/
namespace Go.Proofs.Ytgpiieogiafdoaa
set_option linter.unusedSimpArgs false
set_option linter.unusedVariables false
open Go.RowKit Go.BT
theorem _root_.Go.BT.SL.seatCells {S : Nat → Prop} {w : World} {p : Option Addr} {c d n : Nat} {b : Book} {m : Nat} (hs : SL S w (.slice p m c) b.seats) (hl : b.seats.length = d) (hr : ∀ s (hs : s < b.seats.length), b.seats[s].length = n) (hd : 0 < d) (hn : 0 < n) :
    ∃ bb bo, p = some ⟨bb, bo, none⟩ ∧ ∀ s, s < d → ∃ rb ro rc, w.cell? ⟨bb, bo + s, none⟩ = some (.slice (some ⟨rb, ro, none⟩) n rc) ∧ ∀ q, q < n → w.cell? ⟨rb, ro + q, none⟩ = some (.int .i64 (seatAt b s q)) := by
  obtain ⟨p', c', bb, bo, he, _, _, hp, hc, _⟩ := hs.rows
  injection he with he _ _
  subst he
  refine ⟨bb, bo, hp (by omega), fun s hsd => ?_⟩
  have hsl : s < b.seats.length := by omega
  obtain ⟨u, h1, h2⟩ := hc s hsl
  obtain ⟨p2, c2, b2, o2, rfl, _, _, hp2, hc2, _⟩ := h2.ints
  have hrl := hr s hsl
  rw [hp2 (by omega), hrl] at h1
  refine ⟨b2, o2, c2, h1, fun q hq => ?_⟩
  rw [hc2 q (by omega)]
  simp [seatAt, List.getD_eq_getElem?_getD, hsl, show q < b.seats[s].length by omega]
theorem free_none {h : House} {x : Book} {s c d : Int} (hv : valid h = true) (hx : bookB h x = true) (hs : withinB s 0 (h.dates.length - 1) = true) (hc : withinB c 0 (h.prices.length - 1) = true) (hd : withinB d 0 1000 = true) (ho : openL h x s c d = []) :
    (actR (bookOf (gate h x (freeD h x s c d)))).2 = 0 ∧ restOf [] (gate h x (freeD h x s c d)) = [] := by
  rw [gate_ok hv hx, freeD_yes (by simp [freeOk, hs, hc, hd]), ho]
  exact ⟨rfl, rfl⟩
theorem classes_at {h : House} (hv : valid h = true) {n : Nat} (hn : sizeL h.sectors = n) : ∃ hl : (classesL h.sectors).length = n, ∀ j (hj : j < n), (classesL h.sectors)[j] = classL h.sectors j ∧ withinB (classL h.sectors j) 0 (h.prices.length - 1) = true := by
  have hs : ∀ i (hi : i < h.sectors.length), 0 ≤ h.sectors[i].seats := fun i hi => ((okSec_valid hv).2 i hi).1
  have hl := classesL_len hs
  refine ⟨by omega, fun j hj => ⟨classesL_get hs j (by omega), ?_⟩⟩
  obtain ⟨c, hc, hcl, _⟩ := class_valid hv (n := (j : Int)) (by omega) (by omega)
  rw [hc]
  simp [withinB]; omega
theorem book_lens {h : House} {b : Book} (hv : valid h = true) (hb : bookB h b = true) {n : Nat} (hn : sizeL h.sectors = n) : b.seats.length = h.dates.length ∧ b.off.length = h.dates.length ∧ ∀ s (hs : s < b.seats.length), b.seats[s].length = n := by
  have hO := (okDesk_book hv hb).1
  exact ⟨hO.2.2.1, hO.2.1, fun s hs => by have := rows_len hv hb hs; omega⟩
theorem off_get {b x : Book} {i : Nat} (ho : x.off = b.off.set i true) (hi : i < x.off.length) : x.off[i] = true := by
  have : ∀ (l : List Bool) (hl : i < l.length), l = b.off.set i true → l[i] = true := by
    intro l hl e
    subst e
    simp
  exact this _ hi ho
theorem off_at {b : Book} {p : Nat} (hp : p < b.off.length) (h : offAt b p = false) : b.off[p] = false := by
  simpa [offAt, List.getD_eq_getElem?_getD, hp] using h
end Go.Proofs.Ytgpiieogiafdoaa
/- Walks: the law's seats: each book of a world behind acts has a number for each show and seat. -/
namespace Go.Proofs.Ytgpiieogiafdoaa
set_option linter.unusedSimpArgs false
set_option linter.unusedVariables false
open Go.RowKit Go.BT
set_option maxRecDepth 100000 in
set_option maxHeartbeats 4000000 in
theorem seatsW_any (S : Nat → Prop) (h : House) (W : Wd) (v u : Value) (w : World) (hv : AV S w v h) (hu : AV S w u W) (hok : valid h = true) (hw : WdOk h W) :
    Calls Try.prog 13 #[v, u] w fun e w' => e = .returned (.bool true) ∧ Step w w' := by
  obtain ⟨c0, c1, c2, c3, c4, rfl, h0, h1, h2, h3, h4⟩ := hv.house
  obtain ⟨p2, k2, rfl⟩ := h2.form
  obtain ⟨p4, k4, b4, o4, rfl, _, _, hp4, hc4, _⟩ := h4.rows
  obtain ⟨x0, x1, rfl, s0, s1⟩ := hu.wd
  obtain ⟨pb, kb, bb, ob, rfl, _, _, hpb, hcb, _⟩ := s0.books
  obtain ⟨W0, hW0⟩ : ∃ W0, W0 = (w.alloc (.cells #[c0, c1, .slice p2 h.dates.length k2, c3, .slice p4 h.holds.length k4] 26)).alloc (.cells #[.slice pb W.books.length kb, x1] 33) := ⟨_, rfl⟩
  have hS : Step w W0 := by subst hW0; exact (by repeat (first | (with_reducible assumption) | (with_reducible exact Step.refl _) | (with_reducible apply Step.s_alloc) | (with_reducible apply Step.s_drew) | (with_reducible apply Step.s_drewN) | (with_reducible refine Step.trans ?_ (by with_reducible assumption))))
  have hb0 : Bx W0 w.heap.size [c0, c1, .slice p2 h.dates.length k2, c3, .slice p4 h.holds.length k4] 26 := by subst hW0; exact (Bx.new _ [_, _, _, _, _] _).alloc _
  have hb1 : Bx W0 (w.heap.size + 1) [.slice pb W.books.length kb, x1] 33 := by subst hW0; exact Bx.new' _ [_, _] _ _ (by simp)
  have HB := Lib.hid hb0
  have HW := Lib.hid hb1
  have HS := Lib.hid hS
  have HC4 := Lib.hid (And.intro hp4 hc4)
  have HCB := Lib.hid (And.intro hpb hcb)
  have HOK := Lib.hid (And.intro hok hw)
  have hrow : ∀ i (hi : i < W.books.length), W.books[i].seats.length = h.dates.length ∧ ∀ s (hs : s < W.books[i].seats.length), (W.books[i].seats[s].length : Int) = sizeL h.sectors := fun i hi => by
    have hb := (hw.book i hi).1
    exact ⟨(okDesk_book hok hb).1.2.2.1, fun s hs => rows_len hok hb hs⟩
  have HROW := Lib.hid hrow
  have hbv := bounds_valid hok
  have hd1 : 1 ≤ h.dates.length := hbv.1
  have hh0 : 0 < h.holds.length := by omega
  have HH0 := Lib.hid (show ∃ hh : 0 < h.holds.length, (h.holds[0].length : Int) = sizeL h.sectors from ⟨hh0, hbv.2.2.2.2.2.2.2.2.1 0 hh0⟩)
  have HEQ := Lib.hid hW0
  have hd6 := hbv.2.1
  clear hv hu h0 h1 h2 h3 h4 s0 s1 hp4 hc4 hpb hcb hW0 hb0 hb1 hS hok hw hrow hbv hd1 hh0
  go_enter Try.func13, Try.ntmps13
  go_upto_region 2 with (fail)
  rw [← HEQ.out]
  clear HEQ
  go_loopw [5] (fun i wr => ∃ k : Nat, k ≤ W.books.length ∧ i = .int .i64 k ∧ Step W0 wr) (fun i _ => W.books.length - (intOf i).toNat)
  case atStart => exact ⟨0, Nat.zero_le _, rfl, Step.refl _⟩
  case round =>
    obtain ⟨k, hk, rfl, hT⟩ := hrel
    have HT := Lib.hid hT
    clear hT
    obtain ⟨e0, e1, e2, e3, e4⟩ := cells5 (HB.out.step HT.out)
    have y0 := (HW.out.step HT.out).cell 0
    simp only [List.getElem?_cons_zero] at y0
    by_cases hlt : k < W.books.length
    · obtain rfl := HCB.out.1 (by omega)
      obtain ⟨z1, z2, z4, ⟨f0, f1, f2, f3, f4, f5⟩, s1, s2, s4⟩ := HCB.out.2 k hlt
      obtain ⟨pr, kr, br, orr, rfl, _, _, hpr, hcr, _⟩ := s1.rows
      obtain ⟨L, hL⟩ : ∃ L, L = W.books[k].seats := ⟨_, rfl⟩
      have hrk := HROW.out k hlt
      rw [← hL] at f1 hpr hcr
      have hrl : L.length = h.dates.length ∧ ∀ s (hs : s < L.length), (L[s].length : Int) = sizeL h.sectors := by subst hL; exact hrk
      have HL := Lib.hid (And.intro hpr hcr)
      have HRL := Lib.hid hrl
      have HF1 := Lib.hid ((HS.out).keeps.cell id f1)
      have f1 := (HS.out.trans HT.out).keeps.cell id f1
      clear f0 f2 f3 f4 f5 s1 s2 s4 hpr hcr hrk hrl hL
      have hix : (0 : Int) ≤ (k : Int) ∧ (k : Int) < (W.books.length : Int) := by omega
      have d1 : ((L.length : Int) != (h.dates.length : Int)) = false := by rw [HRL.out.1]; simp
      go_wp2
      go_quiet (fail)
      clear d1 e0 e1 e2 e3 e4 y0 f1
      obtain ⟨wo, hwo⟩ : ∃ W, W = wr := ⟨_, rfl⟩
      subst hwo
      go_wp2
      go_loopw [6] (fun i wi => ∃ s : Nat, s ≤ h.dates.length ∧ i = .int .i64 s ∧ Step W0 wi) (fun i _ => h.dates.length - (intOf i).toNat)
      case atStart => exact ⟨0, Nat.zero_le _, rfl, HT.out.trans (Step.drewN _ _)⟩
      case round =>
        obtain ⟨s, hs, rfl, hT⟩ := hrel
        have HTs := Lib.hid hT
        clear hT
        obtain ⟨e0, e1, e2, e3, e4⟩ := cells5 (HB.out.step HTs.out)
        have y0 := (HW.out.step HTs.out).cell 0
        simp only [List.getElem?_cons_zero] at y0
        by_cases hlts : s < h.dates.length
        · have hsl : s < L.length := by have := HRL.out.1; omega
          obtain rfl := HL.out.1 (by omega)
          obtain ⟨hh0, hhz⟩ := HH0.out
          obtain rfl := HC4.out.1 hh0
          obtain ⟨u1, g1, hu1⟩ := HL.out.2 s hsl
          obtain ⟨u2, g2, hu2⟩ := HC4.out.2 0 hh0
          obtain ⟨pu1, ku1, rfl⟩ := hu1.form
          obtain ⟨pu2, ku2, rfl⟩ := hu2.form
          obtain ⟨n1, hn1⟩ : ∃ n, n = L[s].length := ⟨_, rfl⟩
          have hn2 : h.holds[0].length = n1 := by have := HRL.out.2 s hsl; omega
          rw [← hn1] at g1
          rw [hn2, Nat.add_zero] at g2
          have g1 := (HS.out.trans HTs.out).keeps.cell id g1
          have g2 := (HS.out.trans HTs.out).keeps.cell id g2
          have f1 := HTs.out.keeps.cell id HF1.out
          have hsx : (0 : Int) ≤ (s : Int) ∧ (s : Int) < (L.length : Int) := by omega
          have hzx : (0 : Int) ≤ (0 : Int) ∧ (0 : Int) < (h.holds.length : Int) := by omega
          have d1 : ((n1 : Int) != (n1 : Int)) = false := by simp
          clear hu1 hu2 hn1 hn2 hhz
          go_wp2
          go_quiet (fail)
          go_wp2
          go_roundw
          case rel => exact ⟨s + 1, by omega, by go_num, HTs.out.trans (Step.drewN _ _)⟩
          case measure => simp [intOf]; omega
        · go_wp2
          go_roundw
          case rel => exact ⟨k + 1, by omega, by go_num, HTs.out⟩
          case measure => simp [intOf]; omega
    · go_wp2
      go_ret
      exact ⟨rfl, HS.out.trans HT.out⟩
end Go.Proofs.Ytgpiieogiafdoaa
/- Walks: the law's wrong. -/
namespace Go.Proofs.Ytgpiieogiafdoaa
set_option linter.unusedSimpArgs false
set_option linter.unusedVariables false
open Go.RowKit Go.BT

def wrongB (h : House) (b : Book) : Bool := !(valid h && bookB h b)
theorem wrong_no {h : House} {b : Book} (hw : wrongB h b = false) : valid h = true ∧ bookB h b = true := by
  simpa [wrongB] using hw
theorem wrong_yes {h : House} {b : Book} (hw : wrongB h b = true) : (valid h && bookB h b) = false := by
  unfold wrongB at hw; cases q : (valid h && bookB h b) <;> simp [q] at hw ⊢
end Go.Proofs.Ytgpiieogiafdoaa
/- Walks: the law TicketLoses: it answers true. -/
namespace Go.Proofs.Ytgpiieogiafdoaa
set_option linter.unusedSimpArgs false
set_option linter.unusedVariables false
open Go.RowKit Go.BT

theorem fewB_of {h : House} (hf : few h = true) : fewB h := by
  simp only [few, fewA, Bool.and_eq_true, decide_eq_true_eq] at hf
  obtain ⟨⟨⟨h1, h2⟩, h3⟩, ⟨⟨⟨h4, h5⟩, h6⟩, h7⟩, h8⟩ := hf
  refine ⟨by omega, by omega, by omega, by omega, by omega, fun i hi => ?_, fun i hi => ?_⟩
  · have := all_at h3 hi; simp at this; omega
  · have := all_at h2 hi; simp at this; omega
theorem thinP_of {b : Book} (hf : thin b = true) : thinP b := by
  simp only [thin, thinA, Bool.and_eq_true, Bool.or_eq_true, decide_eq_true_eq] at hf
  obtain ⟨h1, ⟨h2, h3⟩, h4⟩ := hf
  refine ⟨by omega, fun i hi => ?_, by omega, by omega⟩
  have := all_at h1 hi; simp at this; omega
theorem alike_self (b : Book) : alikeB b b = true := by simp [alikeB]
theorem noBook_thin : thinP noBook := ⟨by simp [noBook], fun i hi => by simp [noBook] at hi, by simp [noBook], by simp [noBook]⟩
theorem loseTo_took (h : House) (b : Book) (i : Nat) (d : Int) : ∀ k, (loseTo h b i d k).1.took = b.took
  | 0 => rfl
  | k + 1 => by
    unfold loseTo
    split
    · show (loseOne h (loseTo h b i d k).1 i d k _).1.took = _
      unfold loseOne
      split <;> exact loseTo_took h b i d k
    · exact loseTo_took h b i d k
theorem thin_lose {h : House} {b : Book} (hv : valid h = true) (hb : bookB h b = true) (ht : thinP b) (s d : Int) : thinP (actR (bookOf (loseD h b s d))).1 := by
  obtain ⟨hO, hcash, hc0, hthin⟩ := okDesk_book hv hb
  unfold loseD
  by_cases he : loseE h b s d = 0
  · rw [if_pos he]
    have hw : withinB s 0 (h.dates.length - 1) = true := by
      unfold loseE at he
      cases q : withinB s 0 (h.dates.length - 1) with
      | true => rfl
      | false => simp [q] at he
    obtain ⟨i, rfl, h1, h2⟩ := within_nat hw (by omega)
    have hbv := bounds_valid hv
    have hi : i < b.seats.length := by have := hO.2.2.1; omega
    have hg : b.seats.getD (i : Int).toNat [] = b.seats[i] := by simp [List.getD_eq_getElem?_getD, hi]
    have hO9 : OkDesk h (offBook b i) := by
      obtain ⟨o1, o2, o3⟩ := hO
      exact ⟨o1, by simp [offBook]; exact o2, o3⟩
    have hl : ((b.seats.getD (i : Int).toNat []).length : Int) ≤ sizeL h.sectors := by rw [hg, hO.2.2.2.1 i hi]; omega
    have hL := like_to hO9 (show 0 ≤ (offBook b i).cash from hc0) i d _ hl
    rw [Int.toNat_natCast] at hL ⊢
    show thinP (loseTo h (offBook b i) i d (b.seats.getD i []).length).1
    have e1 : (offBook b i).seats = b.seats := rfl
    refine ⟨by rw [hL.seats, e1]; exact ht.1, fun k hk => ?_, by rw [hL.off]; simp [offBook]; exact ht.2.2.1, by rw [loseTo_took]; exact ht.2.2.2⟩
    have hk' : k < (offBook b i).seats.length := by rw [← hL.seats]; exact hk
    rw [hL.row k hk' hk]
    exact ht.2.1 k hk'
  · rw [if_neg he]; exact noBook_thin
theorem gate_wrong {α : Type} {h : House} {b : Book} {r : Except Int α} (hw : wrongB h b = true) : gate h b r = .error 1 := by
  have := wrong_yes hw
  unfold gate checkR
  rw [this]; rfl
theorem gate_right {α : Type} {h : House} {b : Book} {r : Except Int α} (hw : wrongB h b = false) : gate h b r = r := by
  obtain ⟨h1, h2⟩ := wrong_no hw
  unfold gate checkR
  rw [h1, h2]; rfl
theorem equal_move (a b c : Int) (w : World) : (Op.equal 59 (.agg #[.int .i64 a, .int .i64 b, .int .i64 c]) (.agg #[.int .i64 a, .int .i64 b, .int .i64 c])).run Try.prog w = .ok true w := by
  unfold Op.equal Op.maxDepth
  rw [run_equalIn_agg (w := w) 9999 59 _ _ (by kernel_rfl) (by kernel_rfl)]
  have hf : (Try.prog.fieldsOf 59).toList.map (fun f => (f.name, f.type, f.offset)) = [("Seat", 3, 0), ("Show", 3, 1), ("At", 3, 2)] := by kernel_rfl
  obtain ⟨f, g, k, hfg⟩ : ∃ f g k, (Try.prog.fieldsOf 59).toList = [f, g, k] := by
    cases hl : (Try.prog.fieldsOf 59).toList with
    | nil => simp [hl] at hf
    | cons f l =>
      cases l with
      | nil => simp [hl] at hf
      | cons g l =>
        cases l with
        | nil => simp [hl] at hf
        | cons k l =>
          cases l with
          | nil => exact ⟨f, g, k, rfl⟩
          | cons _ _ => simp [hl] at hf
  rw [hfg] at hf ⊢
  simp only [List.map_cons, List.map_nil, List.cons.injEq, Prod.mk.injEq, and_true] at hf
  obtain ⟨⟨n1, t1, o1⟩, ⟨n2, t2, o2⟩, n3, t3, o3⟩ := hf
  have hi : Try.prog.underlying 3 = some (.int .i64) := by kernel_rfl
  simp [Op.eqFields, n1, n2, n3, t1, t2, t3, o1, o2, o3, hi, part, run_underlying hi]
  have hq : ∀ (a b : Int) (w : World), (Op.equalIn 9999 3 (.int .i64 a) (.int .i64 b)).run Try.prog w = .ok (a == b) w := fun a b w => run_equalIn_int (w := w) 9998 _ _ .i64 _ _ hi
  simp [hq, Result.andThen_ok]
theorem neq_move (a b c : Int) (w : World) : (binOp .neq 59 (.agg #[.int .i64 a, .int .i64 b, .int .i64 c]) (.agg #[.int .i64 a, .int .i64 b, .int .i64 c])).run Try.prog w = .ok (.bool false) w := by
  have h := equal_move a b c w
  unfold Op.equal Op.maxDepth at h
  rw [run_neq_struct, h]
  rfl
end Go.Proofs.Ytgpiieogiafdoaa
/- Walks: the reference's Open. -/
namespace Go.Proofs.Ytgpiieogiafdoaa
set_option linter.unusedSimpArgs false
set_option linter.unusedVariables false
open Go.RowKit Go.BT

end Go.Proofs.Ytgpiieogiafdoaa
/- Walks: the law TicketHouses: it answers true. -/
namespace Go.Proofs.Ytgpiieogiafdoaa
set_option linter.unusedSimpArgs false
set_option linter.unusedVariables false
open Go.RowKit Go.BT

theorem CheckBook_any (S : Nat → Prop) (h : House) (b : Book) (v u : Value) (w : World) (hv : AV S w v h) (hu : AV S w u b) :
    Calls Try.prog 16 #[v, u] w fun e w' => e = .returned (.int .i64 (checkR h b)) ∧ Step w w' := by
  obtain ⟨cs, rfl, hr⟩ := hv
  have hr0 := hr
  obtain ⟨c0, c1, c2, c3, c4, rfl, h0, h1, h2, h3, h4⟩ := hr
  obtain ⟨cs, rfl, hq⟩ := hu
  have hq0 := hq
  obtain ⟨d1, d2, d4, rfl, s1, s2, s4⟩ := hq
  obtain ⟨p0, k0, rfl⟩ := h0.form
  obtain ⟨p1, k1, rfl⟩ := h1.form
  obtain ⟨p2, k2, rfl⟩ := h2.form
  obtain ⟨p3, k3, rfl⟩ := h3.form
  obtain ⟨p4, k4, rfl⟩ := h4.form
  obtain ⟨q1, m1, rfl⟩ := s1.form
  obtain ⟨q2, m2, rfl⟩ := s2.form
  obtain ⟨q4, m4, rfl⟩ := s4.form
  have HR := Lib.hid hr0
  have HQ := Lib.hid hq0
  clear h0 h1 h2 h3 h4 s1 s2 s4 hr0 hq0
  go_enter Try.func16, Try.ntmps16
  go_wp2_with fail
  have hS : Step w ((w.alloc (.cells #[.slice p0 h.sectors.length k0, .slice p1 h.prices.length k1, .slice p2 h.dates.length k2, .slice p3 h.frm.length k3, .slice p4 h.holds.length k4] 47)).alloc (.cells #[.int .i64 b.agency, .slice q1 b.seats.length m1, .slice q2 b.off.length m2, .int .i64 b.sent, .slice q4 b.took.length m4, .int .i64 b.cash] 39)) := (by repeat (first | (with_reducible assumption) | (with_reducible exact Step.refl _) | (with_reducible apply Step.s_alloc) | (with_reducible apply Step.s_drew) | (with_reducible apply Step.s_drewN) | (with_reducible refine Step.trans ?_ (by with_reducible assumption))))
  refine (check_any S h b _ _ _ ⟨_, rfl, Rep.keep (.of_step hS) HR.out⟩ ⟨_, rfl, Rep.keep (.of_step hS) HQ.out⟩).mono ?_
  rintro e wn ⟨rfl, hSn⟩
  go_wp2
  go_ret
  exact ⟨rfl, hS.trans hSn⟩


theorem houses_class {h : House} {n : Int} (hv : valid h = true) : classR h n = if withinB n 0 (sizeL h.sectors - 1) then (classL h.sectors n, 0) else (0, 2) := by simp [classR, hv]
theorem houses_open {h : House} {n : Int} (hv : valid h = true) : openR h n = if withinB n 0 (agN h - 1) then (openP h n, 0) else (noBook, 2) := by simp [openR, hv]
theorem thin_open {h : House} (hv : valid h = true) (n : Int) : thinP (openP h n) := by
  have hbv := bounds_valid hv
  refine ⟨by simp [openP]; omega, fun i hi => ?_, by simp [openP]; omega, by simp [openP]⟩
  have hi' : i < h.holds.length := by simpa [openP] using hi
  have := hbv.2.2.2.2.2.2.2.2.1 i hi'
  simp [openP]
  omega


end Go.Proofs.Ytgpiieogiafdoaa
