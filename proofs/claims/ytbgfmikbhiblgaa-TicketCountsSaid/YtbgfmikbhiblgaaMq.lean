/- The program's refund, and the reference's Sell and Refund, are walked. -/
import Derived.Test.YtbgfmikbhiblgaaMe
import Derived.Test.YtbgfmikbhiblgaaMm
import Derived.Test.YtbgfmikbhiblgaaRows
/- Walks: the program's refund. -/
namespace Go.Proofs.Ytbgfmikbhiblgaa
set_option linter.unusedSimpArgs false
set_option linter.unusedVariables false
open Go.RowKit Go.BT

def refundE (h : House) (b : Book) (s n : Int) : Int := if withinB s 0 (h.dates.length - 1) = false then 2 else if withinB n 0 (sizeL h.sectors - 1) = false then 2 else if 0 < seatAt b s n then 0 else 7
def refundP (h : House) (b : Book) (s n : Int) : Book := { putSeat b s.toNat n.toNat 0 with cash := b.cash - priceL h n }
def refundD (h : House) (b : Book) (s n : Int) : Except Int Book := if refundE h b s n = 0 then .ok (refundP h b s n) else .error (refundE h b s n)
theorem refundD_no {h : House} {b : Book} {s n c : Int} (hc : refundE h b s n = c) (h0 : c ≠ 0) : refundD h b s n = .error c := by simp [refundD, hc, h0]
theorem refundD_yes {h : House} {b : Book} {s n : Int} (hc : refundE h b s n = 0) : refundD h b s n = .ok (refundP h b s n) := by simp [refundD, hc]
section
variable {base : Nat} {w : World} {g : Nat} {h : House} {b : Book} {c0 c1 c2 c3 c4 vs vo vt : Value} {xs : List Value}
set_option maxHeartbeats 4000000 in
theorem refund_any (D : Desk base w g h b c0 c1 c2 c3 c4 vs vo vt xs) (hO : OkDesk h b) (s n : Int) :
    Calls Try.prog 69 #[.pointer (some ⟨g, 0, none⟩), .int .i64 s, .int .i64 n] w (fun e w' => DeskEnds base g h (refundD h b s n) e w w') := by
  have HD := Lib.hid D
  have HO := Lib.hid hO
  have HT := Lib.hid (Step.refl w)
  clear D hO
  go_enter Try.func69, Try.ntmps69
  cases q1 : withinB s 0 (h.dates.length - 1) with
  | false =>
    have HF := Lib.hid (show refundE h b s n = 2 by simp [refundE, q1])
    have hcall := Lib.hid (show_no HD.out s q1)
    go_wp2_with fail
    refine hcall.out.mono ?_
    clear hcall
    rintro e wn ⟨rfl, hSn⟩
    have HTi := Lib.hid (HT.out.trans hSn)
    clear hSn HT
    have HT := HTi
    clear HTi
    exact ⟨rfl, .no (refundD_no HF.out (by simp)) HT.out⟩
  | true =>
  have hcall := Lib.hid (show_yes HD.out s q1)
  go_wp2_with fail
  refine hcall.out.mono ?_
  clear hcall
  rintro e wn ⟨rfl, hSn⟩
  have HTi := Lib.hid (HT.out.trans hSn)
  clear hSn HT
  have HT := HTi
  clear HTi
  have Q1 := Lib.hid q1
  clear q1
  cases q2 : withinB n 0 (sizeL h.sectors - 1) with
  | false =>
    have HF := Lib.hid (show refundE h b s n = 2 by simp [refundE, Q1.out, q2])
    have hcall := Lib.hid (seat_no (HD.out.step HT.out) n HO.out.1 q2)
    go_wp2_with fail
    refine hcall.out.mono ?_
    clear hcall
    rintro e wn ⟨rfl, hSn⟩
    have HTi := Lib.hid (HT.out.trans hSn)
    clear hSn HT
    have HT := HTi
    clear HTi
    exact ⟨rfl, .no (refundD_no HF.out (by simp)) HT.out⟩
  | true =>
  have hcall := Lib.hid (seat_yes (HD.out.step HT.out) n HO.out.1 q2)
  go_wp2_with fail
  refine hcall.out.mono ?_
  clear hcall
  rintro e wn ⟨rfl, hSn⟩
  have HTi := Lib.hid (HT.out.trans hSn)
  clear hSn HT
  have HT := HTi
  clear HTi
  have Q2 := Lib.hid q2
  clear q2
  obtain ⟨i, rfl, hi0, hi1⟩ := within_nat Q1.out (by omega)
  obtain ⟨j, rfl, hj0, hj1⟩ := within_nat Q2.out (by omega)
  have hbv := bounds_valid HO.out.1
  have hD2 := HO.out.2.2.1
  have his : i < b.seats.length := by omega
  have hjs : j < b.seats[i].length := by have := HO.out.2.2.2.1 i his; omega
  have hx2 : (0 : Int) ≤ (i : Int) ∧ (i : Int) < (b.seats.length : Int) := by omega
  have hx3 : (0 : Int) ≤ (j : Int) ∧ (j : Int) < (b.seats[i].length : Int) := by omega
  clear hbv hD2 hi0 hi1 hj0 hj1
  obtain ⟨gs, cs, gi, ci, rfl, ⟨hxi, hxv⟩, hsc, hsj, hsf, _, hgl⟩ := HD.out.seat_at his (by omega)
  have HC := Lib.hid (And.intro hsc (hsj j hjs))
  have HSF := Lib.hid (And.intro hgl (hsf j))
  have hseat : seatAt b i j = b.seats[i][j] := by simp [seatAt, List.getD_eq_getElem?_getD, his, hjs]
  have HE := Lib.hid hseat
  clear hsc hsj hsf hseat
  have hcall := Lib.hid (sold_any (HD.out.step HT.out) i j his hjs)
  go_wp2_with fail
  refine hcall.out.mono ?_
  clear hcall
  rintro e wn ⟨rfl, hSn⟩
  have HTi := Lib.hid (HT.out.trans hSn)
  clear hSn HT
  have HT := HTi
  clear HTi
  by_cases q8 : 0 < b.seats[i][j]
  rotate_left
  · have HF := Lib.hid (show refundE h b i j = 7 by unfold refundE; rw [Q1.out, Q2.out, HE.out, if_neg (by simp), if_neg (by simp), if_neg q8])
    have hd : decide (0 < b.seats[i][j]) = false := by simpa using q8
    rw [hd]
    clear hd q8
    go_wp2_with fail
    refine (ask_no _ _).mono ?_
    rintro e wn ⟨rfl, hSn⟩
    have HTi := Lib.hid (HT.out.trans hSn)
    clear hSn HT
    have HT := HTi
    clear HTi
    exact ⟨rfl, .no (refundD_no HF.out (by simp)) HT.out⟩
  have HF := Lib.hid (show refundE h b i j = 0 by unfold refundE; rw [Q1.out, Q2.out, HE.out, if_neg (by simp), if_neg (by simp), if_pos q8])
  have hd : decide (0 < b.seats[i][j]) = true := by simpa using q8
  rw [hd]
  clear hd q8
  go_wp2_with fail
  refine (ask_yes _ _).mono ?_
  rintro e wn ⟨rfl, hSn⟩
  have HTi := Lib.hid (HT.out.trans hSn)
  clear hSn HT
  have HT := HTi
  clear HTi
  obtain ⟨⟨f0, f1, f2, f3, f4⟩, f5, f6, f7, f8, f9, f10⟩ := cells11 (HD.out.step HT.out).bx
  have m1 := HT.out.keeps.cell id HC.out.1
  have m2 := HT.out.keeps.cell id HC.out.2
  have z0 := (HT.out.cells.2 gi j HSF.out.1).trans HSF.out.2
  go_upto_region 4 with (fail)
  have hset := (HD.out.step HT.out).setSeat (j := j) his hxi hxv 0
  have HD2 := Lib.hid hset.1
  have HSX : Hid (StepX (fun k => base ≤ k) w (wn.setCell ⟨gi, j, none⟩ (.int .i64 0))) := Lib.hid ((StepX.of HT.out).setCell ⟨gi, j, none⟩ _ hset.2)
  generalize wn.setCell ⟨gi, j, none⟩ (.int .i64 0) = w9 at *
  clear hset f0 f1 f2 f3 f4 f5 f6 f7 f8 f9 f10 m1 m2 z0 HC HSF
  obtain ⟨kc, hkc, hkl, hpr, hp0, hp1⟩ := class_valid HO.out.1 (n := j) (by omega) (by have := HO.out.2.2.2.1 i his; omega)
  have hcb := HO.out.2.2.2.2.2.2
  have hcb0 := hcb.1
  have hcb1 := hcb.2.1
  have hO := okSec_valid HO.out.1
  have hj9 : (0 : Int) ≤ (j : Int) ∧ (j : Int) ≤ 1000000000 := by have := (bounds_valid HO.out.1).2.2.2.2.2.2.2.1; have := HO.out.2.2.2.1 i his; omega
  obtain ⟨r0, r1, r2, r3, r4⟩ := rep5 HD2.out.house
  obtain ⟨pz, kz, rfl⟩ := r0.form
  obtain ⟨pp, kp, rfl⟩ := r1.form
  obtain ⟨pd, kd, rfl⟩ := r2.form
  obtain ⟨pf, kf, rfl⟩ := r3.form
  obtain ⟨pg, kg, rfl⟩ := r4.form
  clear r0 r1 r2 r3 r4
  have HPR := Lib.hid hpr
  have HP := Lib.hid (fun W (hW : Step w9 W) => price_any (fun k => base ≤ k) h (.agg #[.slice pz h.sectors.length kz, .slice pp h.prices.length kp, .slice pd h.dates.length kd, .slice pf h.frm.length kf, .slice pg h.holds.length kg]) j W ⟨_, rfl, (HD2.out.step hW).house⟩ hO hj9 kc hkc hkl)
  clear hkc hpr hcb hO
  have HT := Lib.hid (Step.refl w9)
  refine wp_region_seq (kdOf [10] []) [0, 1, 3, 7, 15, 0, 32, 96, 224, 0, 992, 2047, 4095, 8191, 16383, 32767] [0, 1, 2, 3, 4, 5, 6, 7, 8, 9, 10, 11, 12, 13, 14] [15] (by kernel_rfl) (by kernel_rfl) (fun i T z hi hk => by simp [kdOf] at hk <;> (try (split at hk <;> cases hk))) ?_
  intro Wx hWx
  have HT := Lib.hid hWx
  clear hWx
  obtain ⟨⟨f0, f1, f2, f3, f4⟩, f5, f6, f7, f8, f9, f10⟩ := cells11 (HD2.out.step HT.out).bx
  have f10 : Wx.cell? ⟨g, 10, none⟩ = some (.int .i64 b.cash) := f10
  repeat (first | (refine run_off rfl rfl (by rfl) ?_; (try simp only [Act.put, List.setIfInBounds_toArray, List.set_cons_zero, List.set_cons_succ])) | (refine run_chain_off rfl rfl (by rfl) (K0_mono _) ?_; (try simp only [Act.put, List.setIfInBounds_toArray, List.set_cons_zero, List.set_cons_succ])) | ((refine run_want rfl rfl (by rfl) ⟨?_, fun W hW => ?_, ?_⟩; rotate_left; (· (have d0 := hW.keeps.cell id f0; have d1 := hW.keeps.cell id f1; have d2 := hW.keeps.cell id f2; have d3 := hW.keeps.cell id f3; have d4 := hW.keeps.cell id f4; have d5 := hW.keeps.cell id f10; go_simp; (try with_reducible rfl)))); (try simp only [Act.put, List.setIfInBounds_toArray, List.set_cons_zero, List.set_cons_succ])))
  clear f0 f1 f2 f3 f4 f5 f6 f7 f8 f9 f10
  refine run_chain rfl rfl (by rfl) (fun Wi hWi K' hK => ?_)
  have HTi := Lib.hid (HT.out.trans hWi)
  have HZW := Lib.hid HTi.out.size
  clear hWi HT
  go_simp
  refine (HP.out Wi HTi.out).mono ?_
  rintro e wn ⟨rfl, hSn⟩
  have HT := Lib.hid (HTi.out.trans (StepX.of hSn))
  clear HTi
  refine hK _ _ (StepX.of hSn) ?_
  clear hSn
  (try simp only [Act.put, List.setIfInBounds_toArray, List.set_cons_zero, List.set_cons_succ])
  clear HP
  repeat (first | (refine run_off rfl rfl (by rfl) ?_; (try simp only [Act.put, List.setIfInBounds_toArray, List.set_cons_zero, List.set_cons_succ])) | (refine run_chain_off rfl rfl (by rfl) (K0_mono _) ?_; (try simp only [Act.put, List.setIfInBounds_toArray, List.set_cons_zero, List.set_cons_succ])) | ((refine run_want rfl rfl (by rfl) ⟨?_, fun W hW => ?_, ?_⟩; rotate_left; (· (skip; go_simp; (try with_reducible rfl)))); (try simp only [Act.put, List.setIfInBounds_toArray, List.set_cons_zero, List.set_cons_succ])))
  refine run_end (L := [_]) rfl (fun W6 hW6 => ?_)
  have HT6 := Lib.hid (HT.out.trans hW6)
  clear hW6 HT
  have HT := HT6
  clear HT6
  obtain ⟨⟨f0, f1, f2, f3, f4⟩, f5, f6, f7, f8, f9, f10⟩ := cells11 (HD2.out.step HT.out).bx
  have z0 := (HD2.out.step HT.out).bx.frozen 10
  go_wp2
  go_end0
  have hD9 := HD2.out.step HT.out
  have hb9 := hD9.bx.setCell 10 (.int .i64 (b.cash - h.prices[kc]))
  have hD10 := hD9.setBook (Wrote.setCell _ g 10 _) (refundP h b i j) rfl rfl rfl (by simpa [refundP, HPR.out, putSeat] using hb9)
  exact .yes (refundD_yes HF.out) ((HSX.out.trans (.of HT.out)).setCell ⟨g, 10, none⟩ _ hD9.gb) ⟨_, _, _, _, _, _, _, _, _, hD10⟩
end
set_option maxHeartbeats 1000000 in
theorem refund1_any {base : Nat} {W : World} {g : Nat} {h : House} {b : Book} (hD : DeskE base W g h b) (hO : OkDesk h b) (s n : Int) (a1 a2 : Nat) (h1 : W.cell? ⟨a1, 0, none⟩ = some (.int .i64 s)) (h2 : W.cell? ⟨a2, 0, none⟩ = some (.int .i64 n)) :
    Calls Try.prog 68 #[.pointer (some ⟨g, 0, none⟩), .pointer (some ⟨a1, 0, none⟩), .pointer (some ⟨a2, 0, none⟩)] W (fun e W' => DeskEnds base g h (refundD h b s n) e W W') := by
  obtain ⟨c0, c1, c2, c3, c4, vs, vo, vt, xs, D⟩ := hD
  have hcall := Lib.hid (refund_any D hO s n)
  clear D hO
  go_enter Try.func68, Try.ntmps68
  go_wp2_with fail
  refine hcall.out.mono ?_
  clear hcall
  rintro e w' he
  cases hr : refundD h b s n with
  | ok b' =>
    rw [hr] at he
    obtain ⟨hX, rfl, hD⟩ := he
    have HH := Lib.hid (And.intro hX hD)
    clear hX hD
    go_wp2
    go_end0
    exact .yes hr HH.out.1 HH.out.2
  | error c =>
    rw [hr] at he
    obtain ⟨hX, rfl⟩ := he
    exact ⟨rfl, .noX hr hX⟩

set_option maxHeartbeats 1000000 in
theorem Refund_any (S : Nat → Prop) (h : House) (b : Book) (v u : Value) (s n : Int) (w : World) (hv : AV S w v h) (hu : AV S w u b) :
    Calls Try.prog 32 #[v, u, .int .i64 s, .int .i64 n] w fun e w' => ∃ v', e = .returned (.tuple #[v', .int .i64 (actR (doneR h b (refundD h b s n))).2]) ∧ AV (Old w) w' v' (actR (doneR h b (refundD h b s n))).1 ∧ Step w w' := by
  obtain ⟨cs, rfl, hr⟩ := hv
  have hr0 := hr
  obtain ⟨c0, c1, c2, c3, c4, rfl, h0, h1, h2, h3, h4⟩ := hr
  obtain ⟨cs, rfl, hq⟩ := hu
  have hq0 := hq
  obtain ⟨d1, d2, d4, rfl, s1, s2, s4⟩ := hq
  obtain ⟨W7, hW7⟩ : ∃ W7, W7 = ((((w.alloc (.cells #[c0, c1, c2, c3, c4] 43)).alloc (.cells #[.int .i64 b.agency, d1, d2, .int .i64 b.sent, d4, .int .i64 b.cash] 36)).alloc (.cells #[.int .i64 s] 3)).alloc (.cells #[.int .i64 n] 3)).alloc (.cells #[.int .i64 0, .slice none 0 0, .slice none 0 0, .int .i64 0, .slice none 0 0, .int .i64 0] 36) := ⟨_, rfl⟩
  have hS : Step w W7 := by subst hW7; exact (by repeat (first | (with_reducible assumption) | (with_reducible exact Step.refl _) | (with_reducible apply Step.s_alloc) | (with_reducible apply Step.s_drew) | (with_reducible apply Step.s_drewN) | (with_reducible refine Step.trans ?_ (by with_reducible assumption))))
  have hb2 : Bx W7 (w.heap.size + 2) [.int .i64 s] 3 := by subst hW7; exact ((Bx.new' _ _ _ _ (by simp)).alloc _).alloc _
  have hb3 : Bx W7 (w.heap.size + 3) [.int .i64 n] 3 := by subst hW7; exact (Bx.new' _ _ _ _ (by simp)).alloc _
  have hb6 : Bx W7 (w.heap.size + 4) [.int .i64 0, .slice none 0 0, .slice none 0 0, .int .i64 0, .slice none 0 0, .int .i64 0] 36 := by subst hW7; exact Bx.new' _ _ _ _ (by simp)
  have hz7 : W7.heap.size = w.heap.size + 5 := by subst hW7; simp
  have hmf : ∀ (fn : Fn) (first cap : Array Value) (w : World), (Instr.makeFunc fn first cap).run Try.prog w = .ok (.func fn first cap) w := fun _ _ _ _ => rfl
  have hcall := Lib.hid ((done_any S h b _ _ W7 68 #[.pointer (some ⟨w.heap.size + 2, 0, none⟩), .pointer (some ⟨w.heap.size + 3, 0, none⟩)] (Go.Proofs.enters_of Try.func68 (by kernel_rfl) rfl)
    (fun _ => False) (refundD h b s n) (fun _ => True) ⟨_, rfl, Rep.keep (.of_step hS) hr0⟩ ⟨_, rfl, Rep.keep (.of_step hS) hq0⟩ (fun _ h => h.elim) (fun _ _ _ _ => trivial)
    (fun hck W base g hSW h1 h2 hD => (refund1_any hD (okDesk_of hck).1 s n _ _ ((hb2.step hSW).cell 0) ((hb3.step hSW).cell 0)).mono fun e w' he => he.do _)).mono fun e w' he => he.act (fun _ h => h))
  have HW := Lib.hid hW7
  have HS := Lib.hid hS
  have HB6 := Lib.hid hb6
  have HZ7 := Lib.hid hz7
  obtain ⟨p0, k0, rfl⟩ := h0.form
  obtain ⟨p1, k1, rfl⟩ := h1.form
  obtain ⟨p2, k2, rfl⟩ := h2.form
  obtain ⟨p3, k3, rfl⟩ := h3.form
  obtain ⟨p4, k4, rfl⟩ := h4.form
  obtain ⟨q1, m1, rfl⟩ := s1.form
  obtain ⟨q2, m2, rfl⟩ := s2.form
  obtain ⟨q4, m4, rfl⟩ := s4.form
  clear hW7 hS hb2 hb3 hb6 hz7 h0 h1 h2 h3 h4 s1 s2 s4 hr0 hq0
  go_enter Try.func32, Try.ntmps32
  go_wp2_with fail
  rw [← HW.out]
  clear HW
  refine hcall.out.mono ?_
  clear hcall
  rintro e w1 ⟨v', rfl, hv', hS1⟩
  obtain ⟨b1, b2, b4, rfl, t1, t2, t4⟩ := hv'.book
  obtain ⟨q1, m1, rfl⟩ := t1.form
  obtain ⟨q2, m2, rfl⟩ := t2.form
  obtain ⟨q4, m4, rfl⟩ := t4.form
  have HV := Lib.hid hv'
  have HS1 := Lib.hid hS1
  obtain ⟨f0, f1, f2, f3, f4, f5⟩ := cells6 (HB6.out.step HS1.out)
  have zf := (HB6.out.step HS1.out).frozen
  clear hv' hS1 t1 t2 t4
  go_wp2
  clear f0 f1 f2 f3 f4 f5 zf
  have hz7 := HZ7.out
  have b6 := set6 (HB6.out.step HS1.out) (.int .i64 (actR (doneR h b (refundD h b s n))).1.agency) (.slice q1 (actR (doneR h b (refundD h b s n))).1.seats.length m1) (.slice q2 (actR (doneR h b (refundD h b s n))).1.off.length m2) (.int .i64 (actR (doneR h b (refundD h b s n))).1.sent) (.slice q4 (actR (doneR h b (refundD h b s n))).1.took.length m4) (.int .i64 (actR (doneR h b (refundD h b s n))).1.cash)
  refine ret_struct2 (k := 6) rfl siBook rfl b6.1 rfl rfl ⟨_, rfl, (AV.keep (b6.2.keeps.mono fun j _ hj => ?_) HV.out).weak fun j _ hj => ?_, StepX.fresh (HS.out.trans HS1.out) b6.2 (fun j hj => by omega)⟩
  · unfold Old; omega
  · unfold Old at *; omega
end Go.Proofs.Ytbgfmikbhiblgaa
/- Walks: the reference's seat, Sell and Refund. -/
namespace Go.Proofs.Ytbgfmikbhiblgaa
set_option linter.unusedSimpArgs false
set_option linter.unusedVariables false
open Go.RowKit Go.BT

def seatB (h : House) (s n : Int) : Bool := withinB s 0 (h.dates.length - 1) && withinB n 0 (sizeL h.sectors - 1)
theorem seatB_yes {h : House} {s n : Int} (hs : seatB h s n = true) : withinB s 0 (h.dates.length - 1) = true ∧ withinB n 0 (sizeL h.sectors - 1) = true := by
  simpa [seatB] using hs
theorem seatB_no {h : House} {b : Book} {s n : Int} (hs : seatB h s n = false) : (∀ y d, sellE h b s n y d = 2) ∧ refundE h b s n = 2 := by
  cases q1 : withinB s 0 (h.dates.length - 1) with
  | false => exact ⟨fun y d => by simp [sellE, q1], by simp [refundE, q1]⟩
  | true =>
    cases q2 : withinB n 0 (sizeL h.sectors - 1) with
    | false => exact ⟨fun y d => by simp [sellE, q1, q2], by simp [refundE, q1, q2]⟩
    | true => simp [seatB, q1, q2] at hs
set_option maxHeartbeats 2000000 in
theorem rseat_any (S : Nat → Prop) (h : House) (v : Value) (s n : Int) (w : World) (hv : AV S w v h) (hok : valid h = true) :
    Calls Try.prog 70 #[v, .int .i64 s, .int .i64 n] w fun e w' => e = .returned (.bool (seatB h s n)) ∧ Step w w' := by
  obtain ⟨c0, c1, c2, c3, c4, rfl, h0, h1, h2, h3, h4⟩ := hv.house
  obtain ⟨p0, k0, rfl⟩ := h0.form
  obtain ⟨p1, k1, rfl⟩ := h1.form
  obtain ⟨p2, k2, rfl⟩ := h2.form
  obtain ⟨p3, k3, rfl⟩ := h3.form
  obtain ⟨p4, k4, b4, o4, rfl, _, _, hp4, hc4, _⟩ := h4.rows
  have hbv := bounds_valid hok
  have hh0 : 0 < h.holds.length := by omega
  obtain ⟨z, hz⟩ : ∃ z : Nat, sizeL h.sectors = z := ⟨(sizeL h.sectors).toNat, by omega⟩
  have hz0 : 0 < z := by have := size_pos hok; omega
  have hz1 : z ≤ 100 := by omega
  obtain rfl := hp4 hh0
  obtain ⟨uz, gz, huz⟩ := hc4 0 hh0
  obtain ⟨pz, kz, rfl⟩ := huz.form
  simp only [Nat.add_zero] at gz
  have hlz : h.holds[0].length = z := by have := hbv.2.2.2.2.2.2.2.2.1 0 hh0; omega
  rw [hlz] at gz
  have hd : 1 ≤ h.dates.length ∧ h.dates.length ≤ 6 := by omega
  have hwd : IntKind.i64.wrap ((h.dates.length : Int) - 1) = (h.dates.length : Int) - 1 := by rw [IntKind.wrap_i64]; omega
  have hwz : IntKind.i64.wrap ((z : Int) - 1) = (z : Int) - 1 := by rw [IntKind.wrap_i64]; omega
  have hh1 : (0 : Int) < (h.holds.length : Int) := by omega
  have gz := (Keeps.alloc (S := fun _ => False) w (.cells #[.slice p0 h.sectors.length k0, .slice p1 h.prices.length k1, .slice p2 h.dates.length k2, .slice p3 h.frm.length k3, .slice (some ⟨b4, o4, none⟩) h.holds.length k4] 26)).cell id gz
  have hS : Step w (w.alloc (.cells #[.slice p0 h.sectors.length k0, .slice p1 h.prices.length k1, .slice p2 h.dates.length k2, .slice p3 h.frm.length k3, .slice (some ⟨b4, o4, none⟩) h.holds.length k4] 26)) := Step.alloc _ _
  have HS := Lib.hid hS
  have HZ := Lib.hid hz
  clear hv h0 h1 h2 h3 h4 hp4 hc4 huz hlz hbv hz hS hok
  go_enter Try.func70, Try.ntmps70
  go_wp2_with fail
  refine (bigtopref08.In_any _ _ _ _).mono ?_
  rintro e w' ⟨rfl, rfl⟩
  cases q1 : withinB s 0 ((h.dates.length : Int) - 1) with
  | false =>
    have HF := Lib.hid (show seatB h s n = false by simp [seatB, q1])
    clear q1
    go_wp2
    go_ret
    exact ⟨by rw [HF.out]; rfl, HS.out⟩
  | true =>
    have HF := Lib.hid (show seatB h s n = withinB n 0 ((z : Int) - 1) by simp [seatB, q1, HZ.out])
    clear q1
    go_wp2_with fail
    refine (bigtopref08.In_any _ _ _ _).mono ?_
    rintro e w' ⟨rfl, rfl⟩
    go_wp2
    go_ret
    exact ⟨by rw [HF.out]; rfl, HS.out⟩
theorem seat_low {h : House} {b : Book} (hb : bookB h b = true) {i j : Nat} (hi : i < b.seats.length) (hj : j < b.seats[i].length) : -1 ≤ b.seats[i][j] := by
  have h1 := all_at (bookB_parts hb).rows hi
  simp only [rowB, Bool.and_eq_true] at h1
  have h2 := all_at h1.2 hj
  simp [withinB] at h2
  omega
theorem sellP_cash {h : House} {b : Book} (hO : OkDesk h b) (hc : b.cash = cashL h b.seats) {i j : Nat} (hi : i < b.seats.length) (hj : j < b.seats[i].length) {y : Int} (hy : 0 < y) (h0 : ¬ 0 < seatAt b i j) : sellP h b i j y = withCash (putSeat b i j y) (cashL h (putSeat b i j y).seats) := by
  rw [cash_put hi hj]
  unfold sellP withCash wt
  rw [if_pos hy, if_neg h0, hc]
  simp [putSeat]
theorem refundP_cash {h : House} {b : Book} (hO : OkDesk h b) (hc : b.cash = cashL h b.seats) {i j : Nat} (hi : i < b.seats.length) (hj : j < b.seats[i].length) (h0 : 0 < seatAt b i j) : refundP h b i j = withCash (putSeat b i j 0) (cashL h (putSeat b i j 0).seats) := by
  rw [cash_put hi hj]
  unfold refundP withCash wt
  rw [if_neg (by omega), if_pos h0, hc]
  simp [putSeat]
/-- What the reference's Sell, Refund and Take return. -/
def RActEnds (r : Except Int Book) (e : Ending) (w w' : World) : Prop := ∃ v', e = .returned (.tuple #[v', .int .i64 (actR r).2]) ∧ AV (Old w) w' v' (actR r).1 ∧ Step w w'
theorem RActEnds.no {r : Except Int Book} {c : Int} {w w' : World} {v : Value} (hr : r = .error c) (hv : v = .tuple #[.agg #[.int .i64 0, .slice none 0 0, .slice none 0 0, .int .i64 0, .slice none 0 0, .int .i64 0], .int .i64 c]) (hS : Step w w') : RActEnds r (.returned v) w w' := by
  unfold RActEnds
  rw [hr, hv]
  exact ⟨_, rfl, ⟨_, rfl, noBook_rep _ _⟩, hS⟩
end Go.Proofs.Ytbgfmikbhiblgaa
/- Walks: the reference's Refund and Sell. -/
namespace Go.Proofs.Ytbgfmikbhiblgaa
set_option linter.unusedSimpArgs false
set_option linter.unusedVariables false
open Go.RowKit Go.BT

set_option maxRecDepth 100000 in
set_option maxHeartbeats 8000000 in
theorem RRefund_any (S : Nat → Prop) (h : House) (b : Book) (v u : Value) (s n : Int) (w : World) (hv : AV S w v h) (hu : AV S w u b) (hok : valid h = true) (hbk : bookB h b = true) :
    Calls Try.prog 34 #[v, u, .int .i64 s, .int .i64 n] w (fun e w' => RActEnds (refundD h b s n) e w w') := by
  obtain ⟨hO, hcash, hc0, hthin⟩ := okDesk_book hok hbk
  obtain ⟨cs, rfl, hr0⟩ := hv
  have hr := hr0
  obtain ⟨c0, c1, c2, c3, c4, rfl, h0, h1, h2, h3, h4⟩ := hr
  obtain ⟨p0, k0, rfl⟩ := h0.form
  obtain ⟨p1, k1, rfl⟩ := h1.form
  obtain ⟨p2, k2, rfl⟩ := h2.form
  obtain ⟨p3, k3, rfl⟩ := h3.form
  obtain ⟨p4, k4, rfl⟩ := h4.form
  obtain ⟨cs, rfl, hq0⟩ := hu
  have hq := hq0
  obtain ⟨d1, d2, d4, rfl, s1, s2, s4⟩ := hq
  obtain ⟨q1, m1, bs, os, rfl, _, _, hp1, hc1, _⟩ := s1.rows
  obtain ⟨q2, m2, rfl⟩ := s2.form
  obtain ⟨q4, m4, rfl⟩ := s4.form
  have hbv := bounds_valid hok
  obtain ⟨z, hz⟩ : ∃ z : Nat, sizeL h.sectors = z := ⟨(sizeL h.sectors).toNat, by omega⟩
  have hz100 : z ≤ 100 := by omega
  have hz0 : 0 < z := by have := size_pos hok; omega
  obtain ⟨W3, hW3⟩ : ∃ W3, W3 = ((w.alloc (.cells #[.slice p0 h.sectors.length k0, .slice p1 h.prices.length k1, .slice p2 h.dates.length k2, .slice p3 h.frm.length k3, .slice p4 h.holds.length k4] 26)).alloc (.cells #[.int .i64 b.agency, .slice q1 b.seats.length m1, .slice q2 b.off.length m2, .int .i64 b.sent, .slice q4 b.took.length m4, .int .i64 b.cash] 30)).alloc (.cells #[.int .i64 0, .slice none 0 0, .slice none 0 0, .int .i64 0, .slice none 0 0, .int .i64 0] 30) := ⟨_, rfl⟩
  have hbx : Bx W3 w.heap.size [.slice p0 h.sectors.length k0, .slice p1 h.prices.length k1, .slice p2 h.dates.length k2, .slice p3 h.frm.length k3, .slice p4 h.holds.length k4] 26 := by subst hW3; exact ((Bx.new _ _ _).alloc _).alloc _
  have hb2 : Bx W3 (w.heap.size + 1) [.int .i64 b.agency, .slice q1 b.seats.length m1, .slice q2 b.off.length m2, .int .i64 b.sent, .slice q4 b.took.length m4, .int .i64 b.cash] 30 := by subst hW3; exact (Bx.new' _ _ _ _ (by simp)).alloc _
  have hb3 : Bx W3 (w.heap.size + 2) [.int .i64 0, .slice none 0 0, .slice none 0 0, .int .i64 0, .slice none 0 0, .int .i64 0] 30 := by subst hW3; exact Bx.new' _ _ _ _ (by simp)
  have hS : Step w W3 := by subst hW3; exact (by repeat (first | (with_reducible assumption) | (with_reducible exact Step.refl _) | (with_reducible apply Step.s_alloc) | (with_reducible apply Step.s_drew) | (with_reducible apply Step.s_drewN) | (with_reducible refine Step.trans ?_ (by with_reducible assumption))))
  have hz3 : W3.heap.size = w.heap.size + 3 := by subst hW3; simp
  have HO := Lib.hid hO
  have HC0 := Lib.hid (And.intro hc0 hcash)
  have HTH := Lib.hid hthin
  have HB1 := Lib.hid hbx
  have HB2 := Lib.hid hb2
  have HB3 := Lib.hid hb3
  have HR := Lib.hid (Rep.keep (.of_step hS) hr0)
  have HQ := Lib.hid (Rep.keep (.of_step hS) hq0)
  have HSHOW := Lib.hid (And.intro h2 (And.intro h3 s2))
  have HS := Lib.hid hS
  have HZ3 := Lib.hid hz3
  have HZ := Lib.hid hz
  have HP1 := Lib.hid (And.intro hp1 hc1)
  have HOK := Lib.hid hok
  have HBK := Lib.hid hbk
  have HBV := Lib.hid hbv
  have hn1 : 1 ≤ h.dates.length ∧ h.dates.length ≤ 6 := by omega
  have HT := Lib.hid (Step.refl W3)
  have HW := Lib.hid hW3
  clear hr0 hq0 h0 h1 h2 h3 h4 s1 s2 s4 hbx hb2 hb3 hS hz3 hz hp1 hc1 hok hbk hbv hW3 hO hcash hc0 hthin
  go_enter Try.func34, Try.ntmps34
  go_wp2_with fail
  rw [show w.heap.size + 1 + 1 = w.heap.size + 2 from rfl, ← HW.out]
  refine (rseat_any S h _ s n _ ⟨_, rfl, HR.out⟩ HOK.out).mono ?_
  rintro e wn ⟨rfl, hSn⟩
  have HTi := Lib.hid (HT.out.trans hSn)
  clear hSn HT
  have HT := HTi
  clear HTi
  cases q1 : seatB h s n with
  | false =>
    have HF := Lib.hid (seatB_no (b := b) q1).2
    clear q1
    (try clear e0 e1 e2 e3 e4 f0 f1 f2 f3 f4 f5)
    obtain ⟨e0, e1, e2, e3, e4⟩ := cells5 (HB1.out.step HT.out)
    obtain ⟨f0, f1, f2, f3, f4, f5⟩ := cells6 (HB2.out.step HT.out)
    obtain ⟨g0, g1, g2, g3, g4, g5⟩ := cells6 (HB3.out.step HT.out)
    have t0 := (HB3.out.step HT.out).frozen 0
    have t1 := (HB3.out.step HT.out).frozen 1
    have t2 := (HB3.out.step HT.out).frozen 2
    have t3 := (HB3.out.step HT.out).frozen 3
    have t4 := (HB3.out.step HT.out).frozen 4
    have t5 := (HB3.out.step HT.out).frozen 5
    go_wp2
    have b6 := set6 (HB3.out.step HT.out) (.int .i64 0) (.slice none 0 0) (.slice none 0 0) (.int .i64 0) (.slice none 0 0) (.int .i64 0)
    exact ret_struct2 (k := 6) rfl siRefBook rfl b6.1 rfl rfl (.no (refundD_no HF.out (by simp)) rfl (StepX.fresh (HS.out.trans HT.out) b6.2 (fun j hj => by omega)))
  | true =>
  have Q1 := Lib.hid (seatB_yes q1)
  clear q1
  obtain ⟨i, rfl, hi0, hi1⟩ := within_nat Q1.out.1 (by omega)
  obtain ⟨j, rfl, hj0, hj1⟩ := within_nat Q1.out.2 (by omega)
  have hi : i < h.dates.length := by omega
  have his : i < b.seats.length := by have := HO.out.2.2.1; omega
  have hjz : j < z := by have := HZ.out; omega
  have hrl : ∀ b', OkDesk h b' → ∀ s (hs : s < b'.seats.length), b'.seats[s].length = z := fun b' hb s hs => by have := hb.2.2.2.1 s hs; have := HZ.out; omega
  have HRL := Lib.hid hrl
  obtain rfl := HP1.out.1 (by omega)
  obtain ⟨ur, hr1, hr2⟩ := HP1.out.2 i his
  obtain ⟨pr, cr, br, orr, rfl, _, _, hpr, hcr, _⟩ := hr2.ints
  obtain rfl := hpr (by rw [hrl _ HO.out]; exact hz0)
  have hcr2 : w.cell? ⟨br, orr + j, none⟩ = some (.int .i64 (seatAt b i j)) := by
    rw [hcr j (by rw [hrl _ HO.out]; exact hjz)]
    simp [seatAt, List.getD_eq_getElem?_getD, his, show j < b.seats[i].length by rw [hrl _ HO.out]; exact hjz]
  rw [hrl _ HO.out] at hr1
  have HROW := Lib.hid (And.intro hr1 hcr2)
  have hlow : -1 ≤ seatAt b i j := by
    have h1 := seat_low HBK.out his (show j < b.seats[i].length by rw [hrl _ HO.out]; exact hjz)
    simpa [seatAt, List.getD_eq_getElem?_getD, his, show j < b.seats[i].length by rw [hrl _ HO.out]; exact hjz] using h1
  have hx2 : (0 : Int) ≤ (i : Int) ∧ (i : Int) < (b.seats.length : Int) := by omega
  have hx3 : (0 : Int) ≤ (j : Int) ∧ (j : Int) < (z : Int) := by omega
  obtain ⟨y0, hy0⟩ : ∃ y, y = seatAt b i j := ⟨_, rfl⟩
  rw [← hy0] at hlow
  have HY0 := Lib.hid hy0
  clear hi0 hi1 hj0 hj1 hr1 hr2 hpr hcr hcr2 hrl hy0
  by_cases hy : 0 < y0
  rotate_left
  · have HF := Lib.hid (show refundE h b i j = 7 by unfold refundE; rw [Q1.out.1, Q1.out.2, ← HY0.out, if_neg (by simp), if_neg (by simp), if_neg hy])
    have hyd : decide (y0 ≤ 0) = true := by simp; omega
    have a1 := (HS.out.trans HT.out).keeps.cell id HROW.out.1
    have a2 := (HS.out.trans HT.out).keeps.cell id HROW.out.2
    rw [← HY0.out] at a2
    (try clear e0 e1 e2 e3 e4 f0 f1 f2 f3 f4 f5)
    obtain ⟨e0, e1, e2, e3, e4⟩ := cells5 (HB1.out.step HT.out)
    obtain ⟨f0, f1, f2, f3, f4, f5⟩ := cells6 (HB2.out.step HT.out)
    obtain ⟨g0, g1, g2, g3, g4, g5⟩ := cells6 (HB3.out.step HT.out)
    have t0 := (HB3.out.step HT.out).frozen 0
    have t1 := (HB3.out.step HT.out).frozen 1
    have t2 := (HB3.out.step HT.out).frozen 2
    have t3 := (HB3.out.step HT.out).frozen 3
    have t4 := (HB3.out.step HT.out).frozen 4
    have t5 := (HB3.out.step HT.out).frozen 5
    go_wp2
    have b6 := set6 (HB3.out.step HT.out) (.int .i64 0) (.slice none 0 0) (.slice none 0 0) (.int .i64 0) (.slice none 0 0) (.int .i64 0)
    exact ret_struct2 (k := 6) rfl siRefBook rfl b6.1 rfl rfl (.no (refundD_no HF.out (by simp)) rfl (StepX.fresh (HS.out.trans HT.out) b6.2 (fun j hj => by omega)))
  have HF := Lib.hid (show refundE h b i j = 0 by unfold refundE; rw [Q1.out.1, Q1.out.2, ← HY0.out, if_neg (by simp), if_neg (by simp), if_pos hy])
  have hyd : decide (y0 ≤ 0) = false := by simp; omega
  have a1 := (HS.out.trans HT.out).keeps.cell id HROW.out.1
  have a2 := (HS.out.trans HT.out).keeps.cell id HROW.out.2
  rw [← HY0.out] at a2
  (try clear e0 e1 e2 e3 e4 f0 f1 f2 f3 f4 f5)
  obtain ⟨e0, e1, e2, e3, e4⟩ := cells5 (HB1.out.step HT.out)
  obtain ⟨f0, f1, f2, f3, f4, f5⟩ := cells6 (HB2.out.step HT.out)
  go_wp2_with fail
  refine (Copy_any S b _ _ ⟨_, rfl, Rep.keep (.of_step HT.out) HQ.out⟩ HTH.out).mono ?_
  rintro e wd ⟨vs, vo, vt, xs, rfl, hD0, hSd⟩
  obtain ⟨⟨pvs, cvs, rfl⟩, ⟨pvo, cvo, rfl⟩, ⟨pvt, cvt, rfl⟩⟩ := hD0.form
  have hTd := HT.out.trans hSd
  have hbase : w.heap.size + 3 ≤ wd.heap.size := by have := hTd.size; have := HZ3.out; omega
  have hbase2 : w.heap.size + 3 ≤ wn.heap.size := by have := HT.out.size; have := HZ3.out; omega
  (try clear e0 e1 e2 e3 e4 f0 f1 f2 f3 f4 f5)
  have hbD := Bx.new wd [.int .i64 b.agency, .slice pvs b.seats.length cvs, .slice pvo b.off.length cvo, .int .i64 b.sent, .slice pvt b.took.length cvt, .int .i64 b.cash] 30
  have hsA := Step.alloc wd (.cells #[.int .i64 b.agency, .slice pvs b.seats.length cvs, .slice pvo b.off.length cvo, .int .i64 b.sent, .slice pvt b.took.length cvt, .int .i64 b.cash] 30)
  have hD1 := (hD0.step hsA).desk (b2 := w.heap.size + 3) hbase2 hbase hbD
  have hT1 := hTd.trans hsA
  obtain ⟨⟨gs, cs, hvs⟩, hforms⟩ := hD1.forms HO.out HZ.out hz0
  injection hvs with hvs1 hvs2 hvs3
  subst hvs1 hvs3
  clear hvs2
  have HFIN := Lib.hid (show refundD h b i j = .ok (withCash (putSeat b i j 0) (cashL h (putSeat b i j 0).seats)) by
    rw [refundD_yes HF.out, refundP_cash HO.out HC0.out.2 his (by rw [HRL.out _ HO.out]; exact hjz) (by rw [← HY0.out]; exact hy)])
  clear HF hyd a1 a2
  obtain ⟨hxi, gi, ci, hxv⟩ := hforms i hi
  obtain ⟨mA, mj, zj, _, hgil⟩ := hD1.seat_c his hxi hxv (j := j) (by rw [HRL.out _ HO.out]; exact hjz)
  obtain ⟨_, mB, _, _, _, _⟩ := cells6 hD1.bx
  go_upto_region 7 with (fail)
  have hset := hD1.setSeat (j := j) his hxi (by rw [HRL.out _ HO.out]; exact hxv) (0)
  have hT2 : Step W3 ((wd.alloc (.cells #[.int .i64 b.agency, .slice (some ⟨gs, 0, none⟩) b.seats.length cvs, .slice pvo b.off.length cvo, .int .i64 b.sent, .slice pvt b.took.length cvt, .int .i64 b.cash] 30)).setCell ⟨gi, j, none⟩ (.int .i64 (0))) := hT1.setNew ⟨gi, j, none⟩ _ (by have := hset.2; have := HZ3.out; show W3.heap.size ≤ gi; omega)
  have hD2 := hset.1
  clear hset hD1 hT1 hsA hbD hTd hD0 hSd mA mj zj mB hgil hbase hbase2 HT
  generalize (wd.alloc (.cells #[.int .i64 b.agency, .slice (some ⟨gs, 0, none⟩) b.seats.length cvs, .slice pvo b.off.length cvo, .int .i64 b.sent, .slice pvt b.took.length cvt, .int .i64 b.cash] 30)).setCell ⟨gi, j, none⟩ (.int .i64 (0)) = w2 at *
  generalize wd.heap.size = gb at *
  have HT := Lib.hid hT2
  have HD2 := Lib.hid hD2
  have HOQ := Lib.hid ((like_put b i j (0)).ok HO.out (by have := HO.out.2.2.2.2.2.2.1; omega))
  clear hT2 hD2
  (try clear e0 e1 e2 e3 e4 f0 f1 f2 f3 f4 f5)
  obtain ⟨e0, e1, e2, e3, e4⟩ := cells5 (HB1.out.step HT.out)
  obtain ⟨f0, f1, f2, f3, f4, f5⟩ := cells6 (HB2.out.step HT.out)
  obtain ⟨g0, g1, g2, g3, g4, g5⟩ := cells6 HD2.out.bx
  go_wp2_with fail
  refine (Cash_any (fun _ => False) h (putSeat b i j (0)) _ _ _ ⟨_, rfl, Rep.weak (fun _ _ h => h.elim) (Rep.keep (.of_step HT.out) HR.out)⟩ ⟨_, rfl, HD2.out.book (fun _ _ h => h)⟩ HOK.out (by have := HOQ.out.2.2.1; omega) HOQ.out.2.2.2.1).mono ?_
  rintro e wz ⟨rfl, hSz⟩
  obtain ⟨cc, hcc⟩ : ∃ c, c = cashL h (putSeat b i j (0)).seats := ⟨_, rfl⟩
  rw [← hcc]
  have HCCX := Lib.hid hcc
  clear hcc e0 e1 e2 e3 e4 f0 f1 f2 f3 f4 f5 g0 g1 g2 g3 g4 g5
  have hDz := HD2.out.step hSz
  obtain ⟨_, _, _, _, _, g5⟩ := cells6 hDz.bx
  have z5 := hDz.bx.frozen 5
  have hD8 := hDz.setCash cc
  have hT8 : Step W3 (wz.setCell ⟨gb, 5, none⟩ (.int .i64 cc)) := (HT.out.trans hSz).setNew ⟨gb, 5, none⟩ _ (by have := hDz.gb; have := HZ3.out; show W3.heap.size ≤ gb; omega)
  have H8 := Lib.hid (And.intro hD8 hT8)
  go_upto_region 8 with (fail)
  clear hDz g5 z5 hD8 hT8 hSz
  generalize wz.setCell ⟨gb, 5, none⟩ (.int .i64 cc) = w8 at *
  obtain ⟨y0', y1', y2', y3', y4', y5'⟩ := cells6 H8.out.1.bx
  have HT := Lib.hid H8.out.2
  obtain ⟨g0, g1, g2, g3, g4, g5⟩ := cells6 (HB3.out.step HT.out)
  have t0 := (HB3.out.step HT.out).frozen 0
  have t1 := (HB3.out.step HT.out).frozen 1
  have t2 := (HB3.out.step HT.out).frozen 2
  have t3 := (HB3.out.step HT.out).frozen 3
  have t4 := (HB3.out.step HT.out).frozen 4
  have t5 := (HB3.out.step HT.out).frozen 5
  go_wp2
  have b6 := set6 (HB3.out.step HT.out) (.int .i64 b.agency) (.slice (some ⟨gs, 0, none⟩) b.seats.length cvs) (.slice pvo b.off.length cvo) (.int .i64 b.sent) (.slice pvt b.took.length cvt) (.int .i64 cc)
  refine ret_struct2 (k := 6) rfl siRefBook rfl b6.1 rfl rfl ?_
  unfold RActEnds
  rw [HFIN.out, ← HCCX.out]
  exact ⟨_, rfl, ⟨_, rfl, Rep.weak (S := fun j => j < w.heap.size + 3) (fun j _ hj => by unfold Old at hj; omega) (Rep.keep (b6.2.keeps.mono fun j _ hj => by omega) (H8.out.1.book (fun j h1 h2 => by omega)))⟩, StepX.fresh (HS.out.trans HT.out) b6.2 (fun j hj => by omega)⟩

set_option maxRecDepth 100000 in
set_option maxHeartbeats 8000000 in
theorem RSell_any (S : Nat → Prop) (h : House) (b : Book) (v u : Value) (s n y d : Int) (w : World) (hv : AV S w v h) (hu : AV S w u b) (hok : valid h = true) (hbk : bookB h b = true) :
    Calls Try.prog 33 #[v, u, .int .i64 s, .int .i64 n, .int .i64 y, .int .i64 d] w (fun e w' => RActEnds (sellD h b s n y d) e w w') := by
  obtain ⟨hO, hcash, hc0, hthin⟩ := okDesk_book hok hbk
  obtain ⟨cs, rfl, hr0⟩ := hv
  have hr := hr0
  obtain ⟨c0, c1, c2, c3, c4, rfl, h0, h1, h2, h3, h4⟩ := hr
  obtain ⟨p0, k0, rfl⟩ := h0.form
  obtain ⟨p1, k1, rfl⟩ := h1.form
  obtain ⟨p2, k2, rfl⟩ := h2.form
  obtain ⟨p3, k3, rfl⟩ := h3.form
  obtain ⟨p4, k4, rfl⟩ := h4.form
  obtain ⟨cs, rfl, hq0⟩ := hu
  have hq := hq0
  obtain ⟨d1, d2, d4, rfl, s1, s2, s4⟩ := hq
  obtain ⟨q1, m1, bs, os, rfl, _, _, hp1, hc1, _⟩ := s1.rows
  obtain ⟨q2, m2, rfl⟩ := s2.form
  obtain ⟨q4, m4, rfl⟩ := s4.form
  have hbv := bounds_valid hok
  obtain ⟨z, hz⟩ : ∃ z : Nat, sizeL h.sectors = z := ⟨(sizeL h.sectors).toNat, by omega⟩
  have hz100 : z ≤ 100 := by omega
  have hz0 : 0 < z := by have := size_pos hok; omega
  obtain ⟨W3, hW3⟩ : ∃ W3, W3 = ((w.alloc (.cells #[.slice p0 h.sectors.length k0, .slice p1 h.prices.length k1, .slice p2 h.dates.length k2, .slice p3 h.frm.length k3, .slice p4 h.holds.length k4] 26)).alloc (.cells #[.int .i64 b.agency, .slice q1 b.seats.length m1, .slice q2 b.off.length m2, .int .i64 b.sent, .slice q4 b.took.length m4, .int .i64 b.cash] 30)).alloc (.cells #[.int .i64 0, .slice none 0 0, .slice none 0 0, .int .i64 0, .slice none 0 0, .int .i64 0] 30) := ⟨_, rfl⟩
  have hbx : Bx W3 w.heap.size [.slice p0 h.sectors.length k0, .slice p1 h.prices.length k1, .slice p2 h.dates.length k2, .slice p3 h.frm.length k3, .slice p4 h.holds.length k4] 26 := by subst hW3; exact ((Bx.new _ _ _).alloc _).alloc _
  have hb2 : Bx W3 (w.heap.size + 1) [.int .i64 b.agency, .slice q1 b.seats.length m1, .slice q2 b.off.length m2, .int .i64 b.sent, .slice q4 b.took.length m4, .int .i64 b.cash] 30 := by subst hW3; exact (Bx.new' _ _ _ _ (by simp)).alloc _
  have hb3 : Bx W3 (w.heap.size + 2) [.int .i64 0, .slice none 0 0, .slice none 0 0, .int .i64 0, .slice none 0 0, .int .i64 0] 30 := by subst hW3; exact Bx.new' _ _ _ _ (by simp)
  have hS : Step w W3 := by subst hW3; exact (by repeat (first | (with_reducible assumption) | (with_reducible exact Step.refl _) | (with_reducible apply Step.s_alloc) | (with_reducible apply Step.s_drew) | (with_reducible apply Step.s_drewN) | (with_reducible refine Step.trans ?_ (by with_reducible assumption))))
  have hz3 : W3.heap.size = w.heap.size + 3 := by subst hW3; simp
  have HO := Lib.hid hO
  have HC0 := Lib.hid (And.intro hc0 hcash)
  have HTH := Lib.hid hthin
  have HB1 := Lib.hid hbx
  have HB2 := Lib.hid hb2
  have HB3 := Lib.hid hb3
  have HR := Lib.hid (Rep.keep (.of_step hS) hr0)
  have HQ := Lib.hid (Rep.keep (.of_step hS) hq0)
  have HSHOW := Lib.hid (And.intro h2 (And.intro h3 s2))
  have HS := Lib.hid hS
  have HZ3 := Lib.hid hz3
  have HZ := Lib.hid hz
  have HP1 := Lib.hid (And.intro hp1 hc1)
  have HOK := Lib.hid hok
  have HBK := Lib.hid hbk
  have HBV := Lib.hid hbv
  have hn1 : 1 ≤ h.dates.length ∧ h.dates.length ≤ 6 := by omega
  have HT := Lib.hid (Step.refl W3)
  have HW := Lib.hid hW3
  clear hr0 hq0 h0 h1 h2 h3 h4 s1 s2 s4 hbx hb2 hb3 hS hz3 hz hp1 hc1 hok hbk hbv hW3 hO hcash hc0 hthin
  go_enter Try.func33, Try.ntmps33
  go_wp2_with fail
  rw [show w.heap.size + 1 + 1 = w.heap.size + 2 from rfl, ← HW.out]
  refine (rseat_any S h _ s n _ ⟨_, rfl, HR.out⟩ HOK.out).mono ?_
  rintro e wn ⟨rfl, hSn⟩
  have HTi := Lib.hid (HT.out.trans hSn)
  clear hSn HT
  have HT := HTi
  clear HTi
  cases q1 : seatB h s n with
  | false =>
    have HF := Lib.hid ((seatB_no (b := b) q1).1 y d)
    clear q1
    (try clear e0 e1 e2 e3 e4 f0 f1 f2 f3 f4 f5)
    obtain ⟨e0, e1, e2, e3, e4⟩ := cells5 (HB1.out.step HT.out)
    obtain ⟨f0, f1, f2, f3, f4, f5⟩ := cells6 (HB2.out.step HT.out)
    obtain ⟨g0, g1, g2, g3, g4, g5⟩ := cells6 (HB3.out.step HT.out)
    have t0 := (HB3.out.step HT.out).frozen 0
    have t1 := (HB3.out.step HT.out).frozen 1
    have t2 := (HB3.out.step HT.out).frozen 2
    have t3 := (HB3.out.step HT.out).frozen 3
    have t4 := (HB3.out.step HT.out).frozen 4
    have t5 := (HB3.out.step HT.out).frozen 5
    go_wp2
    have b6 := set6 (HB3.out.step HT.out) (.int .i64 0) (.slice none 0 0) (.slice none 0 0) (.int .i64 0) (.slice none 0 0) (.int .i64 0)
    exact ret_struct2 (k := 6) rfl siRefBook rfl b6.1 rfl rfl (.no (sellD_no HF.out (by simp)) rfl (StepX.fresh (HS.out.trans HT.out) b6.2 (fun j hj => by omega)))
  | true =>
  have Q1 := Lib.hid (seatB_yes q1)
  clear q1
  go_wp2_with fail
  refine (bigtopref08.In_any _ _ _ _).mono ?_
  rintro e w' ⟨rfl, rfl⟩
  cases q3 : withinB y 1 1000000 with
  | false =>
    have HF := Lib.hid (show sellE h b s n y d = 2 by simp [sellE, Q1.out.1, Q1.out.2, q3])
    clear q3
    (try clear e0 e1 e2 e3 e4 f0 f1 f2 f3 f4 f5)
    obtain ⟨e0, e1, e2, e3, e4⟩ := cells5 (HB1.out.step HT.out)
    obtain ⟨f0, f1, f2, f3, f4, f5⟩ := cells6 (HB2.out.step HT.out)
    obtain ⟨g0, g1, g2, g3, g4, g5⟩ := cells6 (HB3.out.step HT.out)
    have t0 := (HB3.out.step HT.out).frozen 0
    have t1 := (HB3.out.step HT.out).frozen 1
    have t2 := (HB3.out.step HT.out).frozen 2
    have t3 := (HB3.out.step HT.out).frozen 3
    have t4 := (HB3.out.step HT.out).frozen 4
    have t5 := (HB3.out.step HT.out).frozen 5
    go_wp2
    have b6 := set6 (HB3.out.step HT.out) (.int .i64 0) (.slice none 0 0) (.slice none 0 0) (.int .i64 0) (.slice none 0 0) (.int .i64 0)
    exact ret_struct2 (k := 6) rfl siRefBook rfl b6.1 rfl rfl (.no (sellD_no HF.out (by simp)) rfl (StepX.fresh (HS.out.trans HT.out) b6.2 (fun j hj => by omega)))
  | true =>
  have Q3 := Lib.hid q3
  have hy1 : 0 < y := by simp [withinB] at q3; omega
  clear q3
  obtain ⟨i, rfl, hi0, hi1⟩ := within_nat Q1.out.1 (by omega)
  obtain ⟨j, rfl, hj0, hj1⟩ := within_nat Q1.out.2 (by omega)
  have hi : i < h.dates.length := by omega
  have his : i < b.seats.length := by have := HO.out.2.2.1; omega
  have hjz : j < z := by have := HZ.out; omega
  have hrl : ∀ b', OkDesk h b' → ∀ s (hs : s < b'.seats.length), b'.seats[s].length = z := fun b' hb s hs => by have := hb.2.2.2.1 s hs; have := HZ.out; omega
  have HRL := Lib.hid hrl
  obtain rfl := HP1.out.1 (by omega)
  obtain ⟨ur, hr1, hr2⟩ := HP1.out.2 i his
  obtain ⟨pr, cr, br, orr, rfl, _, _, hpr, hcr, _⟩ := hr2.ints
  obtain rfl := hpr (by rw [hrl _ HO.out]; exact hz0)
  have hcr2 : w.cell? ⟨br, orr + j, none⟩ = some (.int .i64 (seatAt b i j)) := by
    rw [hcr j (by rw [hrl _ HO.out]; exact hjz)]
    simp [seatAt, List.getD_eq_getElem?_getD, his, show j < b.seats[i].length by rw [hrl _ HO.out]; exact hjz]
  rw [hrl _ HO.out] at hr1
  have HROW := Lib.hid (And.intro hr1 hcr2)
  have hlow : -1 ≤ seatAt b i j := by
    have h1 := seat_low HBK.out his (show j < b.seats[i].length by rw [hrl _ HO.out]; exact hjz)
    simpa [seatAt, List.getD_eq_getElem?_getD, his, show j < b.seats[i].length by rw [hrl _ HO.out]; exact hjz] using h1
  have hx2 : (0 : Int) ≤ (i : Int) ∧ (i : Int) < (b.seats.length : Int) := by omega
  have hx3 : (0 : Int) ≤ (j : Int) ∧ (j : Int) < (z : Int) := by omega
  obtain ⟨y0, hy0⟩ : ∃ y, y = seatAt b i j := ⟨_, rfl⟩
  rw [← hy0] at hlow
  have HY0 := Lib.hid hy0
  clear hi0 hi1 hj0 hj1 hr1 hr2 hpr hcr hcr2 hrl hy0
  obtain ⟨bo, oo, ko, bf, of, kf, bg, og, kg, bd, od, kd, ag, ee1, ee2, ee3, hag, m0, m1', m2', m3, hio, hif, hagl⟩ := show_av HSHOW.out.1 HSHOW.out.2.1 HSHOW.out.2.2 HO.out hi
  injection ee1 with ee1a ee1b ee1c
  injection ee2 with ee2a ee2b ee2c
  injection ee3 with ee3a ee3b ee3c
  subst ee1a ee1c ee2a ee2c ee3a ee3c
  have HM := Lib.hid (And.intro m0 (And.intro m1' (And.intro m2' m3)))
  have HAG := Lib.hid hag
  have hx1 : (0 : Int) ≤ (i : Int) ∧ (i : Int) < (b.off.length : Int) := by omega
  have hx4 : (0 : Int) ≤ (i : Int) ∧ (i : Int) < (h.frm.length : Int) := by omega
  have hx5 : (0 : Int) ≤ (ag : Int) ∧ (ag : Int) < (agN h : Int) := by omega
  have hx6 : (0 : Int) ≤ (i : Int) ∧ (i : Int) < (h.dates.length : Int) := by omega
  clear ee1b ee2b ee3b m0 m1' m2' m3 hag
  have hwq := HT.out
  (try clear e0 e1 e2 e3 e4 f0 f1 f2 f3 f4 f5)
  obtain ⟨e0, e1, e2, e3, e4⟩ := cells5 (HB1.out.step HT.out)
  obtain ⟨f0, f1, f2, f3, f4, f5⟩ := cells6 (HB2.out.step HT.out)
  go_upto_region 3 with (fail)
  refine wp_region_seq (kdOf [] []) [0, 1, 0, 7, 15, 31, 63, 63, 191, 63, 959, 1983, 63, 4159, 16319, 32703, 65535, 131071, 262143] [0, 1, 2, 3, 4, 5, 6, 7, 8, 9, 10, 11, 12, 13, 14, 15, 16, 17, 18] [] (by kernel_rfl) (by kernel_rfl) (fun i T z hi hk => by simp [kdOf] at hk <;> (try (split at hk <;> cases hk))) ?_
  intro Wx hWx
  have HTx := Lib.hid (hwq.trans hWx)
  clear hWx hwq HT
  have HT := HTx
  clear HTx
  (try clear e0 e1 e2 e3 e4 f0 f1 f2 f3 f4 f5)
  obtain ⟨e0, e1, e2, e3, e4⟩ := cells5 (HB1.out.step HT.out)
  obtain ⟨f0, f1, f2, f3, f4, f5⟩ := cells6 (HB2.out.step HT.out)
  rw [HAG.out] at f0
  have m0 := (HS.out.trans HT.out).keeps.cell id HM.out.1
  have m1' := (HS.out.trans HT.out).keeps.cell id HM.out.2.1
  have m2' := (HS.out.trans HT.out).keeps.cell id HM.out.2.2.1
  cases q4 : offAt b i with
  | true =>
    rw [q4] at m0
    have HF := Lib.hid (show sellE h b i j y d = 8 by simp [sellE, Q1.out.1, Q1.out.2, Q3.out, q4])
    clear q4
    repeat (first | (refine run_off rfl rfl (by rfl) ?_; (try simp only [Act.put, List.setIfInBounds_toArray, List.set_cons_zero, List.set_cons_succ])) | (refine run_chain_off rfl rfl (by rfl) (K0_mono _) ?_; (try simp only [Act.put, List.setIfInBounds_toArray, List.set_cons_zero, List.set_cons_succ])) | ((refine run_want rfl rfl (by rfl) ⟨?_, fun W hW => ?_, ?_⟩; rotate_left; (· (have d0 := hW.keeps.cell id f2; have d1 := hW.keeps.cell id m0; go_simp; (try with_reducible rfl)))); (try simp only [Act.put, List.setIfInBounds_toArray, List.set_cons_zero, List.set_cons_succ])))
    refine run_end (L := []) rfl (fun W6 hW6 => ?_)
    have HT6 := Lib.hid (HT.out.trans hW6)
    clear hW6 HT
    have HT := HT6
    clear HT6
    (try clear e0 e1 e2 e3 e4 f0 f1 f2 f3 f4 f5)
    obtain ⟨e0, e1, e2, e3, e4⟩ := cells5 (HB1.out.step HT.out)
    obtain ⟨f0, f1, f2, f3, f4, f5⟩ := cells6 (HB2.out.step HT.out)
    obtain ⟨g0, g1, g2, g3, g4, g5⟩ := cells6 (HB3.out.step HT.out)
    have t0 := (HB3.out.step HT.out).frozen 0
    have t1 := (HB3.out.step HT.out).frozen 1
    have t2 := (HB3.out.step HT.out).frozen 2
    have t3 := (HB3.out.step HT.out).frozen 3
    have t4 := (HB3.out.step HT.out).frozen 4
    have t5 := (HB3.out.step HT.out).frozen 5
    go_wp2
    have b6 := set6 (HB3.out.step HT.out) (.int .i64 0) (.slice none 0 0) (.slice none 0 0) (.int .i64 0) (.slice none 0 0) (.int .i64 0)
    exact ret_struct2 (k := 6) rfl siRefBook rfl b6.1 rfl rfl (.no (sellD_no HF.out (by simp)) rfl (StepX.fresh (HS.out.trans HT.out) b6.2 (fun j hj => by omega)))
  | false =>
  rw [q4] at m0
  obtain ⟨fr, hfr⟩ : ∃ x, x = fromAt h i b.agency := ⟨_, rfl⟩
  rw [← hfr] at m2'
  by_cases q5 : d < fr
  · have HF := Lib.hid (show sellE h b i j y d = 8 by rw [sellE_1 Q1.out.1 Q1.out.2 Q3.out q4, ← hfr, if_pos q5])
    have hd : decide (d < fr) = true := by simpa using q5
    clear hfr q4
    repeat (first | (refine run_off rfl rfl (by rfl) ?_; (try simp only [Act.put, List.setIfInBounds_toArray, List.set_cons_zero, List.set_cons_succ])) | (refine run_chain_off rfl rfl (by rfl) (K0_mono _) ?_; (try simp only [Act.put, List.setIfInBounds_toArray, List.set_cons_zero, List.set_cons_succ])) | ((refine run_want rfl rfl (by rfl) ⟨?_, fun W hW => ?_, ?_⟩; rotate_left; (· (have d0 := hW.keeps.cell id f2; have d1 := hW.keeps.cell id m0; have d2 := hW.keeps.cell id e3; have d3 := hW.keeps.cell id m1'; have d4 := hW.keeps.cell id f0; have d5 := hW.keeps.cell id m2'; go_simp; (try with_reducible rfl)))); (try simp only [Act.put, List.setIfInBounds_toArray, List.set_cons_zero, List.set_cons_succ])))
    refine run_end (L := []) rfl (fun W6 hW6 => ?_)
    have HT6 := Lib.hid (HT.out.trans hW6)
    clear hW6 HT
    have HT := HT6
    clear HT6
    (try clear e0 e1 e2 e3 e4 f0 f1 f2 f3 f4 f5)
    obtain ⟨e0, e1, e2, e3, e4⟩ := cells5 (HB1.out.step HT.out)
    obtain ⟨f0, f1, f2, f3, f4, f5⟩ := cells6 (HB2.out.step HT.out)
    obtain ⟨g0, g1, g2, g3, g4, g5⟩ := cells6 (HB3.out.step HT.out)
    have t0 := (HB3.out.step HT.out).frozen 0
    have t1 := (HB3.out.step HT.out).frozen 1
    have t2 := (HB3.out.step HT.out).frozen 2
    have t3 := (HB3.out.step HT.out).frozen 3
    have t4 := (HB3.out.step HT.out).frozen 4
    have t5 := (HB3.out.step HT.out).frozen 5
    go_wp2
    have b6 := set6 (HB3.out.step HT.out) (.int .i64 0) (.slice none 0 0) (.slice none 0 0) (.int .i64 0) (.slice none 0 0) (.int .i64 0)
    exact ret_struct2 (k := 6) rfl siRefBook rfl b6.1 rfl rfl (.no (sellD_no HF.out (by simp)) rfl (StepX.fresh (HS.out.trans HT.out) b6.2 (fun j hj => by omega)))
  have HE := Lib.hid (show sellE h b i j y d = if dateAt h i < d then 11 else if seatAt b i j = -1 then 7 else if 0 < seatAt b i j then 6 else 0 by rw [sellE_1 Q1.out.1 Q1.out.2 Q3.out q4, ← hfr, if_neg q5])
  have hd : decide (d < fr) = false := by simpa using q5
  clear hfr q4
  repeat (first | (refine run_off rfl rfl (by rfl) ?_; (try simp only [Act.put, List.setIfInBounds_toArray, List.set_cons_zero, List.set_cons_succ])) | (refine run_chain_off rfl rfl (by rfl) (K0_mono _) ?_; (try simp only [Act.put, List.setIfInBounds_toArray, List.set_cons_zero, List.set_cons_succ])) | ((refine run_want rfl rfl (by rfl) ⟨?_, fun W hW => ?_, ?_⟩; rotate_left; (· (have d0 := hW.keeps.cell id f2; have d1 := hW.keeps.cell id m0; have d2 := hW.keeps.cell id e3; have d3 := hW.keeps.cell id m1'; have d4 := hW.keeps.cell id f0; have d5 := hW.keeps.cell id m2'; go_simp; (try with_reducible rfl)))); (try simp only [Act.put, List.setIfInBounds_toArray, List.set_cons_zero, List.set_cons_succ])))
  refine run_end (L := []) rfl (fun W6 hW6 => ?_)
  have HT6 := Lib.hid (HT.out.trans hW6)
  clear hW6 HT
  have HT := HT6
  clear HT6
  clear hd q5 m0 m1' m2' e0 e1 e2 e3 e4 f0 f1 f2 f3 f4 f5
  have m3 := (HS.out.trans HT.out).keeps.cell id HM.out.2.2.2
  obtain ⟨dt, hdt⟩ : ∃ x, x = dateAt h i := ⟨_, rfl⟩
  rw [← hdt] at m3
  by_cases q6 : dt < d
  · have HF := Lib.hid (show sellE h b i j y d = 11 by rw [HE.out, ← hdt, if_pos q6])
    clear hdt
    (try clear e0 e1 e2 e3 e4 f0 f1 f2 f3 f4 f5)
    obtain ⟨e0, e1, e2, e3, e4⟩ := cells5 (HB1.out.step HT.out)
    obtain ⟨f0, f1, f2, f3, f4, f5⟩ := cells6 (HB2.out.step HT.out)
    obtain ⟨g0, g1, g2, g3, g4, g5⟩ := cells6 (HB3.out.step HT.out)
    have t0 := (HB3.out.step HT.out).frozen 0
    have t1 := (HB3.out.step HT.out).frozen 1
    have t2 := (HB3.out.step HT.out).frozen 2
    have t3 := (HB3.out.step HT.out).frozen 3
    have t4 := (HB3.out.step HT.out).frozen 4
    have t5 := (HB3.out.step HT.out).frozen 5
    go_wp2
    have b6 := set6 (HB3.out.step HT.out) (.int .i64 0) (.slice none 0 0) (.slice none 0 0) (.int .i64 0) (.slice none 0 0) (.int .i64 0)
    exact ret_struct2 (k := 6) rfl siRefBook rfl b6.1 rfl rfl (.no (sellD_no HF.out (by simp)) rfl (StepX.fresh (HS.out.trans HT.out) b6.2 (fun j hj => by omega)))
  have HE2 := Lib.hid (show sellE h b i j y d = if seatAt b i j = -1 then 7 else if 0 < seatAt b i j then 6 else 0 by rw [HE.out, ← hdt, if_neg q6])
  clear hdt
  have a1 := (HS.out.trans HT.out).keeps.cell id HROW.out.1
  have a2 := (HS.out.trans HT.out).keeps.cell id HROW.out.2
  rw [← HY0.out] at a2
  by_cases q7 : y0 < 0
  · have HF := Lib.hid (show sellE h b i j y d = 7 by rw [HE2.out, ← HY0.out, if_pos (by omega)])
    (try clear e0 e1 e2 e3 e4 f0 f1 f2 f3 f4 f5)
    obtain ⟨e0, e1, e2, e3, e4⟩ := cells5 (HB1.out.step HT.out)
    obtain ⟨f0, f1, f2, f3, f4, f5⟩ := cells6 (HB2.out.step HT.out)
    obtain ⟨g0, g1, g2, g3, g4, g5⟩ := cells6 (HB3.out.step HT.out)
    have t0 := (HB3.out.step HT.out).frozen 0
    have t1 := (HB3.out.step HT.out).frozen 1
    have t2 := (HB3.out.step HT.out).frozen 2
    have t3 := (HB3.out.step HT.out).frozen 3
    have t4 := (HB3.out.step HT.out).frozen 4
    have t5 := (HB3.out.step HT.out).frozen 5
    go_wp2
    have b6 := set6 (HB3.out.step HT.out) (.int .i64 0) (.slice none 0 0) (.slice none 0 0) (.int .i64 0) (.slice none 0 0) (.int .i64 0)
    exact ret_struct2 (k := 6) rfl siRefBook rfl b6.1 rfl rfl (.no (sellD_no HF.out (by simp)) rfl (StepX.fresh (HS.out.trans HT.out) b6.2 (fun j hj => by omega)))
  by_cases q8 : 0 < y0
  · have HF := Lib.hid (show sellE h b i j y d = 6 by rw [HE2.out, ← HY0.out, if_neg (by omega), if_pos q8])
    (try clear e0 e1 e2 e3 e4 f0 f1 f2 f3 f4 f5)
    obtain ⟨e0, e1, e2, e3, e4⟩ := cells5 (HB1.out.step HT.out)
    obtain ⟨f0, f1, f2, f3, f4, f5⟩ := cells6 (HB2.out.step HT.out)
    obtain ⟨g0, g1, g2, g3, g4, g5⟩ := cells6 (HB3.out.step HT.out)
    have t0 := (HB3.out.step HT.out).frozen 0
    have t1 := (HB3.out.step HT.out).frozen 1
    have t2 := (HB3.out.step HT.out).frozen 2
    have t3 := (HB3.out.step HT.out).frozen 3
    have t4 := (HB3.out.step HT.out).frozen 4
    have t5 := (HB3.out.step HT.out).frozen 5
    go_wp2
    have b6 := set6 (HB3.out.step HT.out) (.int .i64 0) (.slice none 0 0) (.slice none 0 0) (.int .i64 0) (.slice none 0 0) (.int .i64 0)
    exact ret_struct2 (k := 6) rfl siRefBook rfl b6.1 rfl rfl (.no (sellD_no HF.out (by simp)) rfl (StepX.fresh (HS.out.trans HT.out) b6.2 (fun j hj => by omega)))
  have HF := Lib.hid (show sellE h b i j y d = 0 by rw [HE2.out, ← HY0.out, if_neg (by omega), if_neg q8])
  obtain ⟨wn2, hwn2⟩ : ∃ W, W = W6 := ⟨_, rfl⟩
  subst hwn2
  (try clear e0 e1 e2 e3 e4 f0 f1 f2 f3 f4 f5)
  obtain ⟨e0, e1, e2, e3, e4⟩ := cells5 (HB1.out.step HT.out)
  obtain ⟨f0, f1, f2, f3, f4, f5⟩ := cells6 (HB2.out.step HT.out)
  go_wp2_with fail
  refine (Copy_any S b _ _ ⟨_, rfl, Rep.keep (.of_step HT.out) HQ.out⟩ HTH.out).mono ?_
  rintro e wd ⟨vs, vo, vt, xs, rfl, hD0, hSd⟩
  obtain ⟨⟨pvs, cvs, rfl⟩, ⟨pvo, cvo, rfl⟩, ⟨pvt, cvt, rfl⟩⟩ := hD0.form
  have hTd := HT.out.trans hSd
  have hbase : w.heap.size + 3 ≤ wd.heap.size := by have := hTd.size; have := HZ3.out; omega
  have hbase2 : w.heap.size + 3 ≤ wn2.heap.size := by have := HT.out.size; have := HZ3.out; omega
  (try clear e0 e1 e2 e3 e4 f0 f1 f2 f3 f4 f5)
  have hbD := Bx.new wd [.int .i64 b.agency, .slice pvs b.seats.length cvs, .slice pvo b.off.length cvo, .int .i64 b.sent, .slice pvt b.took.length cvt, .int .i64 b.cash] 30
  have hsA := Step.alloc wd (.cells #[.int .i64 b.agency, .slice pvs b.seats.length cvs, .slice pvo b.off.length cvo, .int .i64 b.sent, .slice pvt b.took.length cvt, .int .i64 b.cash] 30)
  have hD1 := (hD0.step hsA).desk (b2 := w.heap.size + 3) hbase2 hbase hbD
  have hT1 := hTd.trans hsA
  obtain ⟨⟨gs, cs, hvs⟩, hforms⟩ := hD1.forms HO.out HZ.out hz0
  injection hvs with hvs1 hvs2 hvs3
  subst hvs1 hvs3
  clear hvs2
  have HFIN := Lib.hid (show sellD h b i j y d = .ok (withCash (putSeat b i j y) (cashL h (putSeat b i j y).seats)) by
    rw [sellD_yes HF.out, sellP_cash HO.out HC0.out.2 his (by rw [HRL.out _ HO.out]; exact hjz) hy1 (by rw [← HY0.out]; omega)])
  clear HF HE HE2 a1 a2 m3
  obtain ⟨hxi, gi, ci, hxv⟩ := hforms i hi
  obtain ⟨mA, mj, zj, _, hgil⟩ := hD1.seat_c his hxi hxv (j := j) (by rw [HRL.out _ HO.out]; exact hjz)
  obtain ⟨_, mB, _, _, _, _⟩ := cells6 hD1.bx
  go_upto_region 13 with (fail)
  have hset := hD1.setSeat (j := j) his hxi (by rw [HRL.out _ HO.out]; exact hxv) (y)
  have hT2 : Step W3 ((wd.alloc (.cells #[.int .i64 b.agency, .slice (some ⟨gs, 0, none⟩) b.seats.length cvs, .slice pvo b.off.length cvo, .int .i64 b.sent, .slice pvt b.took.length cvt, .int .i64 b.cash] 30)).setCell ⟨gi, j, none⟩ (.int .i64 (y))) := hT1.setNew ⟨gi, j, none⟩ _ (by have := hset.2; have := HZ3.out; show W3.heap.size ≤ gi; omega)
  have hD2 := hset.1
  clear hset hD1 hT1 hsA hbD hTd hD0 hSd mA mj zj mB hgil hbase hbase2 HT
  generalize (wd.alloc (.cells #[.int .i64 b.agency, .slice (some ⟨gs, 0, none⟩) b.seats.length cvs, .slice pvo b.off.length cvo, .int .i64 b.sent, .slice pvt b.took.length cvt, .int .i64 b.cash] 30)).setCell ⟨gi, j, none⟩ (.int .i64 (y)) = w2 at *
  generalize wd.heap.size = gb at *
  have HT := Lib.hid hT2
  have HD2 := Lib.hid hD2
  have HOQ := Lib.hid ((like_put b i j (y)).ok HO.out (by have := HO.out.2.2.2.2.2.2.1; omega))
  clear hT2 hD2
  (try clear e0 e1 e2 e3 e4 f0 f1 f2 f3 f4 f5)
  obtain ⟨e0, e1, e2, e3, e4⟩ := cells5 (HB1.out.step HT.out)
  obtain ⟨f0, f1, f2, f3, f4, f5⟩ := cells6 (HB2.out.step HT.out)
  obtain ⟨g0, g1, g2, g3, g4, g5⟩ := cells6 HD2.out.bx
  go_wp2_with fail
  refine (Cash_any (fun _ => False) h (putSeat b i j (y)) _ _ _ ⟨_, rfl, Rep.weak (fun _ _ h => h.elim) (Rep.keep (.of_step HT.out) HR.out)⟩ ⟨_, rfl, HD2.out.book (fun _ _ h => h)⟩ HOK.out (by have := HOQ.out.2.2.1; omega) HOQ.out.2.2.2.1).mono ?_
  rintro e wz ⟨rfl, hSz⟩
  obtain ⟨cc, hcc⟩ : ∃ c, c = cashL h (putSeat b i j (y)).seats := ⟨_, rfl⟩
  rw [← hcc]
  have HCCX := Lib.hid hcc
  clear hcc e0 e1 e2 e3 e4 f0 f1 f2 f3 f4 f5 g0 g1 g2 g3 g4 g5
  have hDz := HD2.out.step hSz
  obtain ⟨_, _, _, _, _, g5⟩ := cells6 hDz.bx
  have z5 := hDz.bx.frozen 5
  have hD8 := hDz.setCash cc
  have hT8 : Step W3 (wz.setCell ⟨gb, 5, none⟩ (.int .i64 cc)) := (HT.out.trans hSz).setNew ⟨gb, 5, none⟩ _ (by have := hDz.gb; have := HZ3.out; show W3.heap.size ≤ gb; omega)
  have H8 := Lib.hid (And.intro hD8 hT8)
  go_upto_region 14 with (fail)
  clear hDz g5 z5 hD8 hT8 hSz
  generalize wz.setCell ⟨gb, 5, none⟩ (.int .i64 cc) = w8 at *
  obtain ⟨y0', y1', y2', y3', y4', y5'⟩ := cells6 H8.out.1.bx
  have HT := Lib.hid H8.out.2
  obtain ⟨g0, g1, g2, g3, g4, g5⟩ := cells6 (HB3.out.step HT.out)
  have t0 := (HB3.out.step HT.out).frozen 0
  have t1 := (HB3.out.step HT.out).frozen 1
  have t2 := (HB3.out.step HT.out).frozen 2
  have t3 := (HB3.out.step HT.out).frozen 3
  have t4 := (HB3.out.step HT.out).frozen 4
  have t5 := (HB3.out.step HT.out).frozen 5
  go_wp2
  have b6 := set6 (HB3.out.step HT.out) (.int .i64 b.agency) (.slice (some ⟨gs, 0, none⟩) b.seats.length cvs) (.slice pvo b.off.length cvo) (.int .i64 b.sent) (.slice pvt b.took.length cvt) (.int .i64 cc)
  refine ret_struct2 (k := 6) rfl siRefBook rfl b6.1 rfl rfl ?_
  unfold RActEnds
  rw [HFIN.out, ← HCCX.out]
  exact ⟨_, rfl, ⟨_, rfl, Rep.weak (S := fun j => j < w.heap.size + 3) (fun j _ hj => by unfold Old at hj; omega) (Rep.keep (b6.2.keeps.mono fun j _ hj => by omega) (H8.out.1.book (fun j h1 h2 => by omega)))⟩, StepX.fresh (HS.out.trans HT.out) b6.2 (fun j hj => by omega)⟩
end Go.Proofs.Ytbgfmikbhiblgaa
