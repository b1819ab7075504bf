/- The reference's Give and Take are walked. -/
import Derived.Test.YtbgfmikbhiblgaaMg
import Derived.Test.YtbgfmikbhiblgaaMj
import Derived.Test.YtbgfmikbhiblgaaMk
import Derived.Test.YtbgfmikbhiblgaaMq
import Derived.Test.YtbgfmikbhiblgaaMu
import Derived.Test.YtbgfmikbhiblgaaRows
/- Walks: the reference's rising, Has, RightMessage; the law's Message. -/
namespace Go.Proofs.Ytbgfmikbhiblgaa
set_option linter.unusedSimpArgs false
set_option linter.unusedVariables false
open Go.RowKit Go.BT

def risingB (l : List Int) (z : Int) : Bool := decide (0 < l.length) && (l.all fun n => withinB n 0 (z - 1)) && risesB l
theorem seats_rising (h : House) (l : List Int) : seatsB h l = risingB l (sizeL h.sectors) := rfl
theorem rising_all {l : List Int} {z : Int} (hr : risingB l z = true) : (l.all fun n => withinB n 0 (z - 1)) = true := by
  simp only [risingB, Bool.and_eq_true] at hr; exact hr.1.2
theorem rising_rise {l : List Int} {z : Int} (hr : risingB l z = true) : Rises l l.length := by
  simp only [risingB, risesB, Bool.and_eq_true, decide_eq_true_eq] at hr; exact hr.2
theorem rising_not {l : List Int} {z : Int} (h : ¬ ((l.all fun n => withinB n 0 (z - 1)) = true ∧ Rises l l.length)) : risingB l z = false := by
  cases q : risingB l z with
  | false => rfl
  | true => exact (h ⟨rising_all q, rising_rise q⟩).elim
theorem rises_step {l : List Int} {k j : Nat} (hk : k < l.length) (hp : 0 < k) (h : ¬ l[k] ≤ l[k - 1]) (e : j + 1 = k) : l[j]'(by omega) < l[k] := by
  subst e
  simp only [Nat.add_sub_cancel] at h
  omega
set_option maxHeartbeats 4000000 in
theorem rising_any (S : Nat → Prop) (l : List Int) (z : Nat) (hz : z ≤ 1000000) (v : Value) (w : World) (hv : SL S w v l) :
    Calls Try.prog 75 #[v, .int .i64 z] w fun e w' => e = .returned (.bool (risingB l z)) ∧ Step w w' := by
  obtain ⟨p, c, b, o, rfl, _, hm, hp, hc, h0⟩ := hv.ints
  have hwz : IntKind.i64.wrap ((z : Int) - 1) = (z : Int) - 1 := by rw [IntKind.wrap_i64]; omega
  have HC := Lib.hid hc
  have HP := Lib.hid hp
  clear hv hc hp h0
  go_enter Try.func75, Try.ntmps75
  go_wp2
  go_loopw [5] (fun i wr => ∃ k : Nat, k ≤ l.length ∧ i = .int .i64 k ∧ ((l.take k).all fun n => withinB n 0 ((z : Int) - 1)) = true ∧ Rises l k ∧ Step w wr) (fun i _ => l.length - (intOf i).toNat)
  case atStart => exact ⟨0, Nat.zero_le _, rfl, by simp, fun i h => absurd h (by omega), Step.refl _⟩
  case round =>
    obtain ⟨k, hk, rfl, ha, hr, hT⟩ := hrel
    have HA := Lib.hid ha
    have HRI := Lib.hid hr
    have HT := Lib.hid hT
    clear ha hr hT
    by_cases hlt : k < l.length
    · obtain rfl := HP.out (by omega)
      have hix : (0 : Int) ≤ (k : Int) ∧ (k : Int) < (l.length : Int) := by omega
      go_upto_region 4 with fail
      refine wp_region_seq (kdOf [6] []) [0, 0, 3, 7, 0, 16, 63, 127, 255, 511, 1023, 2047, 4095, 4095, 16383, 32767, 4095, 4095, 135167, 462847, 987135, 2097151, 4194303, 8388607] [0, 1, 2, 3, 4, 5, 6, 7, 8, 9, 10, 11, 12, 13, 14, 15, 16, 17, 18, 19, 20, 21, 22, 23] [] (by kernel_rfl) (by kernel_rfl) (fun i T z hi hk => by simp [kdOf] at hk <;> (try (split at hk <;> cases hk))) ?_
      intro Wx hWx
      have HTx := Lib.hid (HT.out.trans hWx)
      clear hWx HT
      have HT := HTx
      clear HTx
      have g1 := (HT.out.keeps).cell id (HC.out k hlt)
      repeat (first | (refine run_off rfl rfl (by rfl) ?_; (try simp only [Act.put, List.setIfInBounds_toArray, List.set_cons_zero, List.set_cons_succ])) | (refine run_chain_off rfl rfl (by rfl) (K0_mono _) ?_; (try simp only [Act.put, List.setIfInBounds_toArray, List.set_cons_zero, List.set_cons_succ])) | ((refine run_want rfl rfl (by rfl) ⟨?_, fun W hW => ?_, ?_⟩; rotate_left; (· (have d0 := hW.keeps.cell id g1; go_simp; (try with_reducible rfl)))); (try simp only [Act.put, List.setIfInBounds_toArray, List.set_cons_zero, List.set_cons_succ])))
      refine run_chain rfl rfl (by rfl) (fun Wi hWi K' hK => ?_)
      have HTi := Lib.hid (HT.out.trans hWi)
      have HZW := Lib.hid HTi.out.size
      clear hWi HT
      go_simp
      refine (In_st _ _ _ _).mono ?_
      rintro e wn ⟨rfl, hSn⟩
      have HT := Lib.hid (HTi.out.trans (StepX.of hSn))
      clear HTi
      clear g1
      cases q : withinB l[k] 0 ((z : Int) - 1) with
      | false =>
        have q := Lib.hid q
        refine hK _ _ (StepX.of hSn) ?_
        clear hSn
        (try simp only [Act.put, List.setIfInBounds_toArray, List.set_cons_zero, List.set_cons_succ])
        have g1 := (HT.out.keeps).cell id (HC.out k hlt)
        have g2 := g1
        have HF := Lib.hid (rising_not (l := l) (z := (z : Int)) fun p => t_of_ff q.out (all_at p.1 hlt))
        repeat (first | (refine run_off rfl rfl (by rfl) ?_; (try simp only [Act.put, List.setIfInBounds_toArray, List.set_cons_zero, List.set_cons_succ])) | (refine run_chain_off rfl rfl (by rfl) (K0_mono _) ?_; (try simp only [Act.put, List.setIfInBounds_toArray, List.set_cons_zero, List.set_cons_succ])) | ((refine run_want rfl rfl (by rfl) ⟨?_, fun W hW => ?_, ?_⟩; rotate_left; (· (have d0 := hW.keeps.cell id g1; have d1 := hW.keeps.cell id g2; go_simp; (try with_reducible rfl)))); (try simp only [Act.put, List.setIfInBounds_toArray, List.set_cons_zero, List.set_cons_succ])))
        refine run_end (L := []) rfl (fun W6 hW6 => ?_)
        have HT6 := Lib.hid (HT.out.trans hW6)
        clear hW6 HT
        have HT := HT6
        clear HT6
        go_wp2
        go_ret
        exact ⟨by rw [HF.out]; rfl, HT.out⟩
      | true =>
        have HQ := Lib.hid q
        clear q
        refine hK _ _ (StepX.of hSn) ?_
        clear hSn
        (try simp only [Act.put, List.setIfInBounds_toArray, List.set_cons_zero, List.set_cons_succ])
        have g1 := (HT.out.keeps).cell id (HC.out k hlt)
        by_cases hpos : 0 < k
        · have g2 := (HT.out.keeps).cell id (HC.out (k - 1) (by omega))
          have hx2 : (0 : Int) ≤ ((k : Int) - 1) ∧ ((k : Int) - 1) < (l.length : Int) := by omega
          have hd : decide ((0 : Int) < (k : Int)) = true := by simpa using hpos
          have htn : ((k : Int) - 1).toNat = k - 1 := by omega
          have h1s : (1 : Int) ≤ (k : Int) := by omega
          have hws : IntKind.i64.wrap ((k : Int) - 1) = (k : Int) - 1 := by rw [IntKind.wrap_i64]; omega
          by_cases hle : l[k] ≤ l[k - 1]
          · have hld : decide (l[k] ≤ l[k - 1]) = true := decide_eq_true hle
            have HLE := Lib.hid hle
            clear hle
            have HF := Lib.hid (rising_not (l := l) (z := (z : Int)) fun p => rises_at18 hlt hpos HLE.out p.2)
            repeat (first | (refine run_off rfl rfl (by rfl) ?_; (try simp only [Act.put, List.setIfInBounds_toArray, List.set_cons_zero, List.set_cons_succ])) | (refine run_chain_off rfl rfl (by rfl) (K0_mono _) ?_; (try simp only [Act.put, List.setIfInBounds_toArray, List.set_cons_zero, List.set_cons_succ])) | ((refine run_want rfl rfl (by rfl) ⟨?_, fun W hW => ?_, ?_⟩; rotate_left; (· (have d0 := hW.keeps.cell id g1; have d1 := hW.keeps.cell id g2; go_simp; (try with_reducible rfl)))); (try simp only [Act.put, List.setIfInBounds_toArray, List.set_cons_zero, List.set_cons_succ])))
            refine run_end (L := []) rfl (fun W6 hW6 => ?_)
            have HT6 := Lib.hid (HT.out.trans hW6)
            clear hW6 HT
            have HT := HT6
            clear HT6
            go_wp2
            go_ret
            exact ⟨by rw [HF.out]; rfl, HT.out⟩
          · have hld : decide (l[k] ≤ l[k - 1]) = false := decide_eq_false hle
            have HLE := Lib.hid hle
            clear hle
            repeat (first | (refine run_off rfl rfl (by rfl) ?_; (try simp only [Act.put, List.setIfInBounds_toArray, List.set_cons_zero, List.set_cons_succ])) | (refine run_chain_off rfl rfl (by rfl) (K0_mono _) ?_; (try simp only [Act.put, List.setIfInBounds_toArray, List.set_cons_zero, List.set_cons_succ])) | ((refine run_want rfl rfl (by rfl) ⟨?_, fun W hW => ?_, ?_⟩; rotate_left; (· (have d0 := hW.keeps.cell id g1; have d1 := hW.keeps.cell id g2; go_simp; (try with_reducible rfl)))); (try simp only [Act.put, List.setIfInBounds_toArray, List.set_cons_zero, List.set_cons_succ])))
            refine run_end (L := []) rfl (fun W6 hW6 => ?_)
            have HT6 := Lib.hid (HT.out.trans hW6)
            clear hW6 HT
            have HT := HT6
            clear HT6
            go_wp2
            go_roundw
            case rel => exact ⟨k + 1, by omega, by go_num, all_take HA.out hlt HQ.out, rises_next HRI.out hlt (fun j e => rises_step hlt hpos HLE.out e), HT.out⟩
            case measure => simp [intOf]; omega
        · have hd : decide ((0 : Int) < (k : Int)) = false := by simp; omega
          have g2 := g1
          repeat (first | (refine run_off rfl rfl (by rfl) ?_; (try simp only [Act.put, List.setIfInBounds_toArray, List.set_cons_zero, List.set_cons_succ])) | (refine run_chain_off rfl rfl (by rfl) (K0_mono _) ?_; (try simp only [Act.put, List.setIfInBounds_toArray, List.set_cons_zero, List.set_cons_succ])) | ((refine run_want rfl rfl (by rfl) ⟨?_, fun W hW => ?_, ?_⟩; rotate_left; (· (have d0 := hW.keeps.cell id g1; have d1 := hW.keeps.cell id g2; go_simp; (try with_reducible rfl)))); (try simp only [Act.put, List.setIfInBounds_toArray, List.set_cons_zero, List.set_cons_succ])))
          refine run_end (L := []) rfl (fun W6 hW6 => ?_)
          have HT6 := Lib.hid (HT.out.trans hW6)
          clear hW6 HT
          have HT := HT6
          clear HT6
          go_wp2
          go_roundw
          case rel => exact ⟨k + 1, by omega, by go_num, all_take HA.out hlt HQ.out, rises_next HRI.out hlt (fun j e => absurd e (by omega)), HT.out⟩
          case measure => simp [intOf]; omega
    · have HE := Lib.hid (show risingB l z = decide (0 < l.length) by
        have h1 := HA.out
        have h2 := HRI.out
        rw [List.take_of_length_le (by omega)] at h1
        rw [show k = l.length by omega] at h2
        simp only [risingB, risesB, h1, h2, Bool.and_true, decide_true])
      have hd : decide ((0 : Int) < (l.length : Int)) = decide (0 < l.length) := by simp
      have HD := Lib.hid hd
      clear hd
      go_wp2
      go_ret
      exact ⟨by rw [HE.out, ← HD.out]; rfl, HT.out⟩
attribute [local go_sem] eql_rkey
set_option maxHeartbeats 4000000 in
theorem Has_any (S T : Nat → Prop) (b : Book) (m : BT.Message) (v u : Value) (w : World) (hv : AV S w v b) (hu : AV T w u m) :
    Calls Try.prog 77 #[v, u] w fun e w' => e = .returned (.bool (hasK b.took (keyOf m))) ∧ Step w w' := by
  obtain ⟨d1, d2, d4, rfl, s1, s2, s4⟩ := hv.book
  obtain ⟨q1, m1, rfl⟩ := s1.form
  obtain ⟨q2, m2, rfl⟩ := s2.form
  obtain ⟨q4, m4, bx, ox, rfl, _, n4, hpx, hcx, _⟩ := s4.keys
  obtain ⟨mc, rfl, hms⟩ := hu.message
  obtain ⟨pm, cm, rfl⟩ := hms.form
  obtain ⟨W0, hW0⟩ : ∃ W0, W0 = (w.alloc (.cells #[.int .i64 b.agency, .slice q1 b.seats.length m1, .slice q2 b.off.length m2, .int .i64 b.sent, .slice q4 b.took.length m4, .int .i64 b.cash] 30)).alloc (.cells #[.int .i64 m.frm, .int .i64 m.dst, .int .i64 m.number, .int .i64 m.shw, .slice pm m.seats.length cm] 73) := ⟨_, rfl⟩
  have hb1 : Bx W0 w.heap.size [.int .i64 b.agency, .slice q1 b.seats.length m1, .slice q2 b.off.length m2, .int .i64 b.sent, .slice q4 b.took.length m4, .int .i64 b.cash] 30 := by subst hW0; exact (Bx.new _ _ _).alloc _
  have hb2 : Bx W0 (w.heap.size + 1) [.int .i64 m.frm, .int .i64 m.dst, .int .i64 m.number, .int .i64 m.shw, .slice pm m.seats.length cm] 73 := by subst hW0; exact Bx.new' _ [_, _, _, _, _] _ _ (by simp)
  have hS : Step w W0 := by subst hW0; exact (by repeat (first | (with_reducible assumption) | (with_reducible exact Step.refl _) | (with_reducible apply Step.s_alloc) | (with_reducible apply Step.s_drew) | (with_reducible apply Step.s_drewN) | (with_reducible refine Step.trans ?_ (by with_reducible assumption))))
  have HB1 := Lib.hid hb1
  have HB2 := Lib.hid hb2
  have HS := Lib.hid hS
  have HX := Lib.hid (And.intro hpx hcx)
  have HW := Lib.hid hW0
  clear hv hu s1 s2 s4 hms hpx hcx hb1 hb2 hS hW0
  go_enter Try.func77, Try.ntmps77
  go_wp2
  go_loopw [5] (fun i wr => ∃ k : Nat, k ≤ b.took.length ∧ i = .int .i64 k ∧ keyOf m ∉ b.took.take k ∧ Step W0 wr) (fun i _ => b.took.length - (intOf i).toNat)
  case atStart => exact ⟨0, Nat.zero_le _, rfl, by simp, by rw [HW.out]; exact Step.refl _⟩
  case round =>
    obtain ⟨k, hk, rfl, ht, hT⟩ := hrel
    have HA := Lib.hid ht
    have HT := Lib.hid hT
    clear ht hT
    obtain ⟨f0, f1, f2, f3, f4, f5⟩ := cells6 (HB1.out.step HT.out)
    obtain ⟨e0, e1, e2, e3, e4⟩ := cells5 (HB2.out.step HT.out)
    by_cases hlt : k < b.took.length
    · obtain rfl := HX.out.1 (by omega)
      obtain ⟨g1, g3⟩ := HX.out.2 k hlt
      have g1 := (HS.out.trans HT.out).keeps.cell id g1
      have g3 := (HS.out.trans HT.out).keeps.cell id g3
      have hix1 : (0 : Int) ≤ (k : Int) ∧ (k : Int) < (b.took.length : Int) := by omega
      obtain ⟨x, hx⟩ := (show ∃ x, b.took[k] = x from ⟨_, rfl⟩)
      rw [hx] at g1 g3
      have HK := Lib.hid hx
      clear hx
      obtain ⟨xf, xn⟩ := x
      dsimp only at g1 g3
      obtain ⟨kf, hkf⟩ : ∃ y, y = m.frm := ⟨_, rfl⟩
      obtain ⟨kn, hkn⟩ : ∃ y, y = m.number := ⟨_, rfl⟩
      rw [← hkf] at e0
      rw [← hkn] at e2
      have HM := Lib.hid (show keyOf m = ⟨kf, kn⟩ by unfold keyOf; rw [hkf, hkn])
      clear hkf hkn
      by_cases q1 : xf = kf
      · subst q1
        by_cases q2 : xn = kn
        · subst q2
          have HQ := Lib.hid (show hasK b.took (keyOf m) = true by unfold hasK; rw [decide_eq_true_eq, HM.out, ← HK.out]; exact List.getElem_mem hlt)
          go_wp2
          go_quiet (fail)
          go_wp2
          go_ret
          exact ⟨by rw [HQ.out]; rfl, HS.out.trans (HT.out.trans (Step.drewN _ _))⟩
        · have HF := Lib.hid (not_take hlt HA.out (show keyOf m ≠ b.took[k] by rw [HM.out, HK.out]; intro e; injection e with e1 e2; exact q2 e2.symm))
          go_wp2
          go_quiet (fail)
          go_wp2
          go_roundw
          case rel => exact ⟨k + 1, by omega, by go_num, HF.out, HT.out.trans (Step.drewN _ _)⟩
          case measure => simp [intOf]; omega
      · have HF := Lib.hid (not_take hlt HA.out (show keyOf m ≠ b.took[k] by rw [HM.out, HK.out]; intro e; injection e with e1 e2; exact q1 e1.symm))
        go_wp2
        go_quiet (fail)
        go_wp2
        go_roundw
        case rel => exact ⟨k + 1, by omega, by go_num, HF.out, HT.out.trans (Step.drewN _ _)⟩
        case measure => simp [intOf]; omega
    · have HE := Lib.hid (show hasK b.took (keyOf m) = false by have := HA.out; rw [List.take_of_length_le (by omega)] at this; unfold hasK; rw [decide_eq_false_iff_not]; exact this)
      clear HA
      go_wp2
      go_ret
      exact ⟨by rw [HE.out]; rfl, HS.out.trans HT.out⟩

set_option maxHeartbeats 4000000 in
theorem Message_any (T : Nat → Prop) (m : BT.Message) (u : Value) (w : World) (hu : AV T w u m) (hl : m.seats.length ≤ 1000000) :
    Calls Try.prog 38 #[u] w fun e w' => ∃ v', e = .returned v' ∧ AV (Old w) w' v' m ∧ Step w w' := by
  obtain ⟨mc, rfl, hms⟩ := hu.message
  have hms0 := hms
  obtain ⟨pm, cm, rfl⟩ := hms.form
  obtain ⟨W0, hW0⟩ : ∃ W0, W0 = (w.alloc (.cells #[.int .i64 m.frm, .int .i64 m.dst, .int .i64 m.number, .int .i64 m.shw, .slice pm m.seats.length cm] 73)).alloc (.cells #[.int .i64 0, .int .i64 0, .int .i64 0, .int .i64 0, .slice none 0 0] 74) := ⟨_, rfl⟩
  have hb1 : Bx W0 w.heap.size [.int .i64 m.frm, .int .i64 m.dst, .int .i64 m.number, .int .i64 m.shw, .slice pm m.seats.length cm] 73 := by subst hW0; exact (Bx.new _ _ _).alloc _
  have hb2 : Bx W0 (w.heap.size + 1) [.int .i64 0, .int .i64 0, .int .i64 0, .int .i64 0, .slice none 0 0] 74 := by subst hW0; exact Bx.new' _ [_, _, _, _, _] _ _ (by simp)
  have hS : Step w W0 := by subst hW0; exact (by repeat (first | (with_reducible assumption) | (with_reducible exact Step.refl _) | (with_reducible apply Step.s_alloc) | (with_reducible apply Step.s_drew) | (with_reducible apply Step.s_drewN) | (with_reducible refine Step.trans ?_ (by with_reducible assumption))))
  have hz : W0.heap.size = w.heap.size + 2 := by subst hW0; simp
  have HB1 := Lib.hid hb1
  have HB2 := Lib.hid hb2
  have HS := Lib.hid hS
  have HZ := Lib.hid hz
  have HM := Lib.hid (hms0.keep (.of_step hS))
  have HL := Lib.hid hl
  have HW := Lib.hid hW0
  have HT := Lib.hid (Step.refl W0)
  clear hu hms hms0 hb1 hb2 hS hW0 hl hz
  go_enter Try.func38, Try.ntmps38
  go_upto_region 1 with (fail)
  rw [← HW.out]
  refine wp_region_seq (kdOf [10] []) [0, 1, 0, 4, 0, 16, 0, 64, 0, 256, 768, 2047, 4095] [0, 1, 2, 3, 4, 5, 6, 7, 8, 9, 10, 11] [12] (by kernel_rfl) (by kernel_rfl) (fun i T z hi hk => by simp [kdOf] at hk <;> (try (split at hk <;> cases hk))) ?_
  intro Wx hWx
  have HTx := Lib.hid (HT.out.trans hWx)
  clear hWx HT
  have HT := HTx
  clear HTx
  obtain ⟨e0, e1, e2, e3, e4⟩ := cells5 (HB1.out.step HT.out)
  repeat (first | (refine run_off rfl rfl (by rfl) ?_; (try simp only [Act.put, List.setIfInBounds_toArray, List.set_cons_zero, List.set_cons_succ])) | (refine run_chain_off rfl rfl (by rfl) (K0_mono _) ?_; (try simp only [Act.put, List.setIfInBounds_toArray, List.set_cons_zero, List.set_cons_succ])) | ((refine run_want rfl rfl (by rfl) ⟨?_, fun W hW => ?_, ?_⟩; rotate_left; (· (have d0 := hW.keeps.cell id e0; have d1 := hW.keeps.cell id e1; have d2 := hW.keeps.cell id e2; have d3 := hW.keeps.cell id e3; have d4 := hW.keeps.cell id e4; go_simp; (try with_reducible rfl)))); (try simp only [Act.put, List.setIfInBounds_toArray, List.set_cons_zero, List.set_cons_succ])))
  refine run_chain rfl rfl (by rfl) (fun Wi hWi K' hK => ?_)
  have HTi := Lib.hid (HT.out.trans hWi)
  have HZW := Lib.hid HTi.out.size
  clear hWi HT
  go_simp
  refine (list_any T m.seats _ Wi (HM.out.keep (.of_step HTi.out)) HL.out).mono ?_
  rintro e wn ⟨v', rfl, hv', hSn⟩
  have HT := Lib.hid (HTi.out.trans (StepX.of hSn))
  clear HTi
  obtain ⟨pv, cv, rfl⟩ := hv'.form
  have HV := Lib.hid hv'
  have HZI := HZW
  clear hv'
  have hsn := hSn
  refine hK _ _ (StepX.of hSn) ?_
  have HSN := Lib.hid hSn
  clear hSn hsn
  (try simp only [Act.put, List.setIfInBounds_toArray, List.set_cons_zero, List.set_cons_succ])
  repeat (first | (refine run_off rfl rfl (by rfl) ?_; (try simp only [Act.put, List.setIfInBounds_toArray, List.set_cons_zero, List.set_cons_succ])) | (refine run_chain_off rfl rfl (by rfl) (K0_mono _) ?_; (try simp only [Act.put, List.setIfInBounds_toArray, List.set_cons_zero, List.set_cons_succ])) | ((refine run_want rfl rfl (by rfl) ⟨?_, fun W hW => ?_, ?_⟩; rotate_left; (· (obtain ⟨hc'', hf''⟩ := hW.cells; go_simp; (try with_reducible rfl)))); (try simp only [Act.put, List.setIfInBounds_toArray, List.set_cons_zero, List.set_cons_succ])))
  refine run_end (L := [_]) rfl (fun W6 hW6 => ?_)
  have HTx := Lib.hid (HT.out.trans hW6)
  have HV6 := Lib.hid (HV.out.keep (.of_step hW6))
  clear hW6 HT HV
  have HT := HTx
  clear HTx
  have hb2 := HB2.out.step HT.out
  have n0 := hb2.cell 0
  have n1 := hb2.cell 1
  have n2 := hb2.cell 2
  have n3 := hb2.cell 3
  have n4 := hb2.cell 4
  have zn := hb2.frozen
  simp only [List.getElem?_cons_zero, List.getElem?_cons_succ] at n0 n1 n2 n3 n4
  have HB2' := Lib.hid hb2
  clear hb2 e0 e1 e2 e3 e4
  go_wp2
  have b5 := set5 HB2'.out (.int .i64 m.frm) (.int .i64 m.dst) (.int .i64 m.number) (.int .i64 m.shw) (.slice pv m.seats.length cv)
  have hz1 := HZ.out
  have hz2 := HZI.out
  refine ret_struct (k := 5) rfl siMessage rfl b5.1 rfl rfl ⟨_, rfl, ⟨_, rfl, _, rfl, (HV6.out.keep (b5.2.keeps.mono fun j _ hj => ?_)).weak fun j _ hj => ?_⟩, StepX.fresh (HS.out.trans HT.out) b5.2 (fun j hj => by omega)⟩
  · unfold Old; omega
  · unfold Old at *; omega
end Go.Proofs.Ytbgfmikbhiblgaa
/- Walks: the reference's RightMessage. -/
namespace Go.Proofs.Ytbgfmikbhiblgaa
set_option linter.unusedSimpArgs false
set_option linter.unusedVariables false
open Go.RowKit Go.BT

set_option maxRecDepth 100000 in
set_option maxHeartbeats 8000000 in
theorem RightMessage_any (S T : Nat → Prop) (h : House) (m : BT.Message) (v u : Value) (w : World) (hv : AV S w v h) (hu : AV T w u m) (hok : valid h = true) :
    Calls Try.prog 76 #[v, u] w fun e w' => e = .returned (.bool (messV h m)) ∧ Step w w' := by
  obtain ⟨cs, rfl, hr0⟩ := hv
  have hr := hr0
  obtain ⟨c0, c1, c2, c3, c4, rfl, h0, h1, h2, h3, h4⟩ := hr
  obtain ⟨p0, k0, rfl⟩ := h0.form
  obtain ⟨p1, k1, rfl⟩ := h1.form
  obtain ⟨p2, k2, rfl⟩ := h2.form
  obtain ⟨p3, k3, rfl⟩ := h3.form
  obtain ⟨p4, k4, b4, o4, rfl, _, m4, hp4, hc4, hb4⟩ := h4.rows
  obtain ⟨mc, rfl, hms⟩ := hu.message
  obtain ⟨pm, cm, rfl⟩ := hms.form
  have hbv := bounds_valid hok
  have hwa : IntKind.i64.wrap ((agN h : Int) - 1) = (agN h : Int) - 1 := by rw [IntKind.wrap_i64]; omega
  have hwd : IntKind.i64.wrap ((h.dates.length : Int) - 1) = (h.dates.length : Int) - 1 := by rw [IntKind.wrap_i64]; omega
  have hf0 : 0 < h.frm.length := by omega
  have hh0 : 0 < h.holds.length := by omega
  obtain ⟨z, hz⟩ : ∃ z : Nat, sizeL h.sectors = z := ⟨(sizeL h.sectors).toNat, by omega⟩
  have hz1 : z ≤ 100 := by omega
  obtain rfl := hp4 hh0
  obtain ⟨uz, gz, huz⟩ := hc4 0 hh0
  obtain ⟨pz, kz, rfl⟩ := huz.form
  simp only [Nat.add_zero] at gz
  have hlz : h.holds[0].length = z := by have := hbv.2.2.2.2.2.2.2.2.1 0 hh0; omega
  rw [hlz] at gz
  have hn1 : 1 ≤ h.dates.length ∧ h.dates.length ≤ 6 := by omega
  have hh1 : (0 : Int) < (h.holds.length : Int) := by omega
  have hhx : (0 : Int) ≤ 0 ∧ (0 : Int) < (h.holds.length : Int) := by omega
  obtain ⟨W0, hW0⟩ : ∃ W0, W0 = (w.alloc (.cells #[.slice p0 h.sectors.length k0, .slice p1 h.prices.length k1, .slice p2 h.dates.length k2, .slice p3 h.frm.length k3, .slice (some ⟨b4, o4, none⟩) h.holds.length k4] 26)).alloc (.cells #[.int .i64 m.frm, .int .i64 m.dst, .int .i64 m.number, .int .i64 m.shw, .slice pm m.seats.length cm] 73) := ⟨_, rfl⟩
  have hbx : Bx W0 w.heap.size [.slice p0 h.sectors.length k0, .slice p1 h.prices.length k1, .slice p2 h.dates.length k2, .slice p3 h.frm.length k3, .slice (some ⟨b4, o4, none⟩) h.holds.length k4] 26 := by subst hW0; exact (Bx.new _ _ _).alloc _
  have hb2 : Bx W0 (w.heap.size + 1) [.int .i64 m.frm, .int .i64 m.dst, .int .i64 m.number, .int .i64 m.shw, .slice pm m.seats.length cm] 73 := by subst hW0; exact Bx.new' _ [_, _, _, _, _] _ _ (by simp)
  have hS : Step w W0 := by subst hW0; exact (by repeat (first | (with_reducible assumption) | (with_reducible exact Step.refl _) | (with_reducible apply Step.s_alloc) | (with_reducible apply Step.s_drew) | (with_reducible apply Step.s_drewN) | (with_reducible refine Step.trans ?_ (by with_reducible assumption))))
  have HB1 := Lib.hid hbx
  have HB2 := Lib.hid hb2
  have HR := Lib.hid (Rep.keep (.of_step hS) hr0)
  have HM := Lib.hid (hms.keep (.of_step hS))
  have HS := Lib.hid hS
  have HGZ := Lib.hid gz
  have HZ := Lib.hid hz
  have HT := Lib.hid (Step.refl W0)
  have HW := Lib.hid hW0
  have hcall := Lib.hid (Agencies_any S h _ _ ⟨_, rfl, HR.out⟩ hf0)
  clear hr0 h0 h1 h2 h3 h4 hms hu hbx hb2 hS hW0 hok hbv huz hlz hc4 hb4 hp4 gz hz
  go_enter Try.func76, Try.ntmps76
  go_wp2_with fail
  rw [← HW.out]
  refine hcall.out.mono ?_
  rintro e wn ⟨rfl, hSn⟩
  have HT := Lib.hid hSn
  clear hSn hcall
  go_upto_region 2 with fail
  refine wp_region_seq (kdOf [3, 8, 20, 29, 39] []) [0, 1, 0, 7, 15, 31, 63, 31, 255, 511, 1023, 2047, 4095, 2047, 10239, 32767, 65535, 131071, 262143, 524287, 1048575, 2097151, 4194303, 8388607, 16777215, 8388607, 41943039, 109051903, 243269631, 536870911, 1073741823, 2147483647, 4294967295, 8589934591, 4294967295, 21474836479, 55834574847, 124554051583, 261993005055, 549755813887, 1099511627775, 2199023255551] [0, 1, 2, 3, 4, 5, 6, 7, 8, 9, 10, 11, 12, 13, 14, 15, 16, 17, 18, 19, 20, 21, 22, 23, 24, 25, 26, 27, 28, 29, 30, 31, 32, 33, 34, 35, 36, 37, 38, 39, 40, 41] [] (by kernel_rfl) (by kernel_rfl) (fun i T z hi hk => by simp [kdOf] at hk <;> (try (split at hk <;> cases hk))) ?_
  intro Wx hWx
  have HTx := Lib.hid (HT.out.trans hWx)
  clear hWx HT
  have HT := HTx
  clear HTx
  (try clear e0 e1 e2 e3 e4 x0 x1 x2 x3 x4 gz)
  obtain ⟨e0, e1, e2, e3, e4⟩ := cells5 (HB1.out.step HT.out)
  obtain ⟨x0, x1, x2, x3, x4⟩ := cells5 (HB2.out.step HT.out)
  have gz := (HS.out.trans HT.out).keeps.cell id HGZ.out
  repeat (first | (refine run_off rfl rfl (by rfl) ?_; (try simp only [Act.put, List.setIfInBounds_toArray, List.set_cons_zero, List.set_cons_succ])) | (refine run_chain_off rfl rfl (by rfl) (K0_mono _) ?_; (try simp only [Act.put, List.setIfInBounds_toArray, List.set_cons_zero, List.set_cons_succ])) | ((refine run_want rfl rfl (by rfl) ⟨?_, fun W hW => ?_, ?_⟩; rotate_left; (· (have d0 := hW.keeps.cell id x0; have d1 := hW.keeps.cell id x1; have d2 := hW.keeps.cell id x2; have d3 := hW.keeps.cell id x3; have d4 := hW.keeps.cell id x4; have d5 := hW.keeps.cell id e2; have d6 := hW.keeps.cell id e4; have d7 := hW.keeps.cell id gz; go_simp; (try with_reducible rfl)))); (try simp only [Act.put, List.setIfInBounds_toArray, List.set_cons_zero, List.set_cons_succ])))
  refine run_chain rfl rfl (by rfl) (fun Wi hWi K' hK => ?_)
  have HTi := Lib.hid (HT.out.trans hWi)
  have HZW := Lib.hid HTi.out.size
  clear hWi HT
  go_simp
  refine (In_st _ _ _ _).mono ?_
  rintro e wn ⟨rfl, hSn⟩
  have HT := Lib.hid (HTi.out.trans (StepX.of hSn))
  clear HTi
  cases q1 : withinB m.frm 0 ((agN h : Int) - 1) with
  | false =>
    have q1 := Lib.hid q1
    have HF := Lib.hid (show messV h m = false by simp only [messV, q1.out]; simp)
    refine hK _ _ (StepX.of hSn) ?_
    clear hSn
    (try simp only [Act.put, List.setIfInBounds_toArray, List.set_cons_zero, List.set_cons_succ])
    (try clear e0 e1 e2 e3 e4 x0 x1 x2 x3 x4 gz)
    obtain ⟨e0, e1, e2, e3, e4⟩ := cells5 (HB1.out.step HT.out)
    obtain ⟨x0, x1, x2, x3, x4⟩ := cells5 (HB2.out.step HT.out)
    have gz := (HS.out.trans HT.out).keeps.cell id HGZ.out
    repeat (first | (refine run_off rfl rfl (by rfl) ?_; (try simp only [Act.put, List.setIfInBounds_toArray, List.set_cons_zero, List.set_cons_succ])) | (refine run_chain_off rfl rfl (by rfl) (K0_mono _) ?_; (try simp only [Act.put, List.setIfInBounds_toArray, List.set_cons_zero, List.set_cons_succ])) | ((refine run_want rfl rfl (by rfl) ⟨?_, fun W hW => ?_, ?_⟩; rotate_left; (· (have d0 := hW.keeps.cell id x0; have d1 := hW.keeps.cell id x1; have d2 := hW.keeps.cell id x2; have d3 := hW.keeps.cell id x3; have d4 := hW.keeps.cell id x4; have d5 := hW.keeps.cell id e2; have d6 := hW.keeps.cell id e4; have d7 := hW.keeps.cell id gz; go_simp; (try with_reducible rfl)))); (try simp only [Act.put, List.setIfInBounds_toArray, List.set_cons_zero, List.set_cons_succ])))
    refine run_end (L := []) rfl (fun W6 hW6 => ?_)
    have HT6 := Lib.hid (HT.out.trans hW6)
    clear hW6 HT
    have HT := HT6
    clear HT6
    go_wp2
    go_ret
    exact ⟨by rw [HF.out]; rfl, HS.out.trans HT.out⟩
  | true =>
  have Q1 := Lib.hid q1
  clear q1
  refine hK _ _ (StepX.of hSn) ?_
  clear hSn
  (try simp only [Act.put, List.setIfInBounds_toArray, List.set_cons_zero, List.set_cons_succ])
  (try clear e0 e1 e2 e3 e4 x0 x1 x2 x3 x4 gz)
  obtain ⟨e0, e1, e2, e3, e4⟩ := cells5 (HB1.out.step HT.out)
  obtain ⟨x0, x1, x2, x3, x4⟩ := cells5 (HB2.out.step HT.out)
  have gz := (HS.out.trans HT.out).keeps.cell id HGZ.out
  repeat (first | (refine run_off rfl rfl (by rfl) ?_; (try simp only [Act.put, List.setIfInBounds_toArray, List.set_cons_zero, List.set_cons_succ])) | (refine run_chain_off rfl rfl (by rfl) (K0_mono _) ?_; (try simp only [Act.put, List.setIfInBounds_toArray, List.set_cons_zero, List.set_cons_succ])) | ((refine run_want rfl rfl (by rfl) ⟨?_, fun W hW => ?_, ?_⟩; rotate_left; (· (have d0 := hW.keeps.cell id x0; have d1 := hW.keeps.cell id x1; have d2 := hW.keeps.cell id x2; have d3 := hW.keeps.cell id x3; have d4 := hW.keeps.cell id x4; have d5 := hW.keeps.cell id e2; have d6 := hW.keeps.cell id e4; have d7 := hW.keeps.cell id gz; go_simp; (try with_reducible rfl)))); (try simp only [Act.put, List.setIfInBounds_toArray, List.set_cons_zero, List.set_cons_succ])))
  refine run_chain rfl rfl (by rfl) (fun Wi hWi K' hK => ?_)
  have HTi := Lib.hid (HT.out.trans hWi)
  have HZW := Lib.hid HTi.out.size
  clear hWi HT
  go_simp
  refine (In_st _ _ _ _).mono ?_
  rintro e wn ⟨rfl, hSn⟩
  have HT := Lib.hid (HTi.out.trans (StepX.of hSn))
  clear HTi
  cases q2 : withinB m.dst 0 ((agN h : Int) - 1) with
  | false =>
    have q2 := Lib.hid q2
    have HF := Lib.hid (show messV h m = false by simp only [messV, Q1.out, q2.out]; simp)
    refine hK _ _ (StepX.of hSn) ?_
    clear hSn
    (try simp only [Act.put, List.setIfInBounds_toArray, List.set_cons_zero, List.set_cons_succ])
    (try clear e0 e1 e2 e3 e4 x0 x1 x2 x3 x4 gz)
    obtain ⟨e0, e1, e2, e3, e4⟩ := cells5 (HB1.out.step HT.out)
    obtain ⟨x0, x1, x2, x3, x4⟩ := cells5 (HB2.out.step HT.out)
    have gz := (HS.out.trans HT.out).keeps.cell id HGZ.out
    repeat (first | (refine run_off rfl rfl (by rfl) ?_; (try simp only [Act.put, List.setIfInBounds_toArray, List.set_cons_zero, List.set_cons_succ])) | (refine run_chain_off rfl rfl (by rfl) (K0_mono _) ?_; (try simp only [Act.put, List.setIfInBounds_toArray, List.set_cons_zero, List.set_cons_succ])) | ((refine run_want rfl rfl (by rfl) ⟨?_, fun W hW => ?_, ?_⟩; rotate_left; (· (have d0 := hW.keeps.cell id x0; have d1 := hW.keeps.cell id x1; have d2 := hW.keeps.cell id x2; have d3 := hW.keeps.cell id x3; have d4 := hW.keeps.cell id x4; have d5 := hW.keeps.cell id e2; have d6 := hW.keeps.cell id e4; have d7 := hW.keeps.cell id gz; go_simp; (try with_reducible rfl)))); (try simp only [Act.put, List.setIfInBounds_toArray, List.set_cons_zero, List.set_cons_succ])))
    refine run_end (L := []) rfl (fun W6 hW6 => ?_)
    have HT6 := Lib.hid (HT.out.trans hW6)
    clear hW6 HT
    have HT := HT6
    clear HT6
    go_wp2
    go_ret
    exact ⟨by rw [HF.out]; rfl, HS.out.trans HT.out⟩
  | true =>
  have Q2 := Lib.hid q2
  clear q2
  by_cases q3 : m.frm = m.dst
  · have hd : (m.frm != m.dst) = false := by simpa using q3
    have q3 := Lib.hid q3
    have HF := Lib.hid (show messV h m = false by simp only [messV, Q1.out, Q2.out, q3.out]; simp)
    refine hK _ _ (StepX.of hSn) ?_
    clear hSn
    (try simp only [Act.put, List.setIfInBounds_toArray, List.set_cons_zero, List.set_cons_succ])
    (try clear e0 e1 e2 e3 e4 x0 x1 x2 x3 x4 gz)
    obtain ⟨e0, e1, e2, e3, e4⟩ := cells5 (HB1.out.step HT.out)
    obtain ⟨x0, x1, x2, x3, x4⟩ := cells5 (HB2.out.step HT.out)
    have gz := (HS.out.trans HT.out).keeps.cell id HGZ.out
    repeat (first | (refine run_off rfl rfl (by rfl) ?_; (try simp only [Act.put, List.setIfInBounds_toArray, List.set_cons_zero, List.set_cons_succ])) | (refine run_chain_off rfl rfl (by rfl) (K0_mono _) ?_; (try simp only [Act.put, List.setIfInBounds_toArray, List.set_cons_zero, List.set_cons_succ])) | ((refine run_want rfl rfl (by rfl) ⟨?_, fun W hW => ?_, ?_⟩; rotate_left; (· (have d0 := hW.keeps.cell id x0; have d1 := hW.keeps.cell id x1; have d2 := hW.keeps.cell id x2; have d3 := hW.keeps.cell id x3; have d4 := hW.keeps.cell id x4; have d5 := hW.keeps.cell id e2; have d6 := hW.keeps.cell id e4; have d7 := hW.keeps.cell id gz; go_simp; (try with_reducible rfl)))); (try simp only [Act.put, List.setIfInBounds_toArray, List.set_cons_zero, List.set_cons_succ])))
    refine run_end (L := []) rfl (fun W6 hW6 => ?_)
    have HT6 := Lib.hid (HT.out.trans hW6)
    clear hW6 HT
    have HT := HT6
    clear HT6
    go_wp2
    go_ret
    exact ⟨by rw [HF.out]; rfl, HS.out.trans HT.out⟩
  have hd : (m.frm != m.dst) = true := by simpa using q3
  have Q3 := Lib.hid q3
  clear q3
  refine hK _ _ (StepX.of hSn) ?_
  clear hSn
  (try simp only [Act.put, List.setIfInBounds_toArray, List.set_cons_zero, List.set_cons_succ])
  (try clear e0 e1 e2 e3 e4 x0 x1 x2 x3 x4 gz)
  obtain ⟨e0, e1, e2, e3, e4⟩ := cells5 (HB1.out.step HT.out)
  obtain ⟨x0, x1, x2, x3, x4⟩ := cells5 (HB2.out.step HT.out)
  have gz := (HS.out.trans HT.out).keeps.cell id HGZ.out
  repeat (first | (refine run_off rfl rfl (by rfl) ?_; (try simp only [Act.put, List.setIfInBounds_toArray, List.set_cons_zero, List.set_cons_succ])) | (refine run_chain_off rfl rfl (by rfl) (K0_mono _) ?_; (try simp only [Act.put, List.setIfInBounds_toArray, List.set_cons_zero, List.set_cons_succ])) | ((refine run_want rfl rfl (by rfl) ⟨?_, fun W hW => ?_, ?_⟩; rotate_left; (· (have d0 := hW.keeps.cell id x0; have d1 := hW.keeps.cell id x1; have d2 := hW.keeps.cell id x2; have d3 := hW.keeps.cell id x3; have d4 := hW.keeps.cell id x4; have d5 := hW.keeps.cell id e2; have d6 := hW.keeps.cell id e4; have d7 := hW.keeps.cell id gz; go_simp; (try with_reducible rfl)))); (try simp only [Act.put, List.setIfInBounds_toArray, List.set_cons_zero, List.set_cons_succ])))
  refine run_chain rfl rfl (by rfl) (fun Wi hWi K' hK => ?_)
  have HTi := Lib.hid (HT.out.trans hWi)
  have HZW := Lib.hid HTi.out.size
  clear hWi HT
  go_simp
  refine (In_st _ _ _ _).mono ?_
  rintro e wn ⟨rfl, hSn⟩
  have HT := Lib.hid (HTi.out.trans (StepX.of hSn))
  clear HTi
  cases q4 : withinB m.number 1 1000 with
  | false =>
    have q4 := Lib.hid q4
    have HF := Lib.hid (show messV h m = false by simp only [messV, Q1.out, Q2.out, q4.out]; simp)
    refine hK _ _ (StepX.of hSn) ?_
    clear hSn
    (try simp only [Act.put, List.setIfInBounds_toArray, List.set_cons_zero, List.set_cons_succ])
    (try clear e0 e1 e2 e3 e4 x0 x1 x2 x3 x4 gz)
    obtain ⟨e0, e1, e2, e3, e4⟩ := cells5 (HB1.out.step HT.out)
    obtain ⟨x0, x1, x2, x3, x4⟩ := cells5 (HB2.out.step HT.out)
    have gz := (HS.out.trans HT.out).keeps.cell id HGZ.out
    repeat (first | (refine run_off rfl rfl (by rfl) ?_; (try simp only [Act.put, List.setIfInBounds_toArray, List.set_cons_zero, List.set_cons_succ])) | (refine run_chain_off rfl rfl (by rfl) (K0_mono _) ?_; (try simp only [Act.put, List.setIfInBounds_toArray, List.set_cons_zero, List.set_cons_succ])) | ((refine run_want rfl rfl (by rfl) ⟨?_, fun W hW => ?_, ?_⟩; rotate_left; (· (have d0 := hW.keeps.cell id x0; have d1 := hW.keeps.cell id x1; have d2 := hW.keeps.cell id x2; have d3 := hW.keeps.cell id x3; have d4 := hW.keeps.cell id x4; have d5 := hW.keeps.cell id e2; have d6 := hW.keeps.cell id e4; have d7 := hW.keeps.cell id gz; go_simp; (try with_reducible rfl)))); (try simp only [Act.put, List.setIfInBounds_toArray, List.set_cons_zero, List.set_cons_succ])))
    refine run_end (L := []) rfl (fun W6 hW6 => ?_)
    have HT6 := Lib.hid (HT.out.trans hW6)
    clear hW6 HT
    have HT := HT6
    clear HT6
    go_wp2
    go_ret
    exact ⟨by rw [HF.out]; rfl, HS.out.trans HT.out⟩
  | true =>
  have Q4 := Lib.hid q4
  clear q4 hd
  refine hK _ _ (StepX.of hSn) ?_
  clear hSn
  (try simp only [Act.put, List.setIfInBounds_toArray, List.set_cons_zero, List.set_cons_succ])
  (try clear e0 e1 e2 e3 e4 x0 x1 x2 x3 x4 gz)
  obtain ⟨e0, e1, e2, e3, e4⟩ := cells5 (HB1.out.step HT.out)
  obtain ⟨x0, x1, x2, x3, x4⟩ := cells5 (HB2.out.step HT.out)
  have gz := (HS.out.trans HT.out).keeps.cell id HGZ.out
  repeat (first | (refine run_off rfl rfl (by rfl) ?_; (try simp only [Act.put, List.setIfInBounds_toArray, List.set_cons_zero, List.set_cons_succ])) | (refine run_chain_off rfl rfl (by rfl) (K0_mono _) ?_; (try simp only [Act.put, List.setIfInBounds_toArray, List.set_cons_zero, List.set_cons_succ])) | ((refine run_want rfl rfl (by rfl) ⟨?_, fun W hW => ?_, ?_⟩; rotate_left; (· (have d0 := hW.keeps.cell id x0; have d1 := hW.keeps.cell id x1; have d2 := hW.keeps.cell id x2; have d3 := hW.keeps.cell id x3; have d4 := hW.keeps.cell id x4; have d5 := hW.keeps.cell id e2; have d6 := hW.keeps.cell id e4; have d7 := hW.keeps.cell id gz; go_simp; (try with_reducible rfl)))); (try simp only [Act.put, List.setIfInBounds_toArray, List.set_cons_zero, List.set_cons_succ])))
  refine run_chain rfl rfl (by rfl) (fun Wi hWi K' hK => ?_)
  have HTi := Lib.hid (HT.out.trans hWi)
  have HZW := Lib.hid HTi.out.size
  clear hWi HT
  go_simp
  refine (In_st _ _ _ _).mono ?_
  rintro e wn ⟨rfl, hSn⟩
  have HT := Lib.hid (HTi.out.trans (StepX.of hSn))
  clear HTi
  cases q5 : withinB m.shw 0 ((h.dates.length : Int) - 1) with
  | false =>
    have q5 := Lib.hid q5
    have HF := Lib.hid (show messV h m = false by simp only [messV, Q1.out, Q2.out, q5.out]; simp)
    refine hK _ _ (StepX.of hSn) ?_
    clear hSn
    (try simp only [Act.put, List.setIfInBounds_toArray, List.set_cons_zero, List.set_cons_succ])
    (try clear e0 e1 e2 e3 e4 x0 x1 x2 x3 x4 gz)
    obtain ⟨e0, e1, e2, e3, e4⟩ := cells5 (HB1.out.step HT.out)
    obtain ⟨x0, x1, x2, x3, x4⟩ := cells5 (HB2.out.step HT.out)
    have gz := (HS.out.trans HT.out).keeps.cell id HGZ.out
    repeat (first | (refine run_off rfl rfl (by rfl) ?_; (try simp only [Act.put, List.setIfInBounds_toArray, List.set_cons_zero, List.set_cons_succ])) | (refine run_chain_off rfl rfl (by rfl) (K0_mono _) ?_; (try simp only [Act.put, List.setIfInBounds_toArray, List.set_cons_zero, List.set_cons_succ])) | ((refine run_want rfl rfl (by rfl) ⟨?_, fun W hW => ?_, ?_⟩; rotate_left; (· (have d0 := hW.keeps.cell id x0; have d1 := hW.keeps.cell id x1; have d2 := hW.keeps.cell id x2; have d3 := hW.keeps.cell id x3; have d4 := hW.keeps.cell id x4; have d5 := hW.keeps.cell id e2; have d6 := hW.keeps.cell id e4; have d7 := hW.keeps.cell id gz; go_simp; (try with_reducible rfl)))); (try simp only [Act.put, List.setIfInBounds_toArray, List.set_cons_zero, List.set_cons_succ])))
    refine run_end (L := []) rfl (fun W6 hW6 => ?_)
    have HT6 := Lib.hid (HT.out.trans hW6)
    clear hW6 HT
    have HT := HT6
    clear HT6
    go_wp2
    go_ret
    exact ⟨by rw [HF.out]; rfl, HS.out.trans HT.out⟩
  | true =>
  have Q5 := Lib.hid q5
  clear q5
  refine hK _ _ (StepX.of hSn) ?_
  clear hSn
  (try simp only [Act.put, List.setIfInBounds_toArray, List.set_cons_zero, List.set_cons_succ])
  (try clear e0 e1 e2 e3 e4 x0 x1 x2 x3 x4 gz)
  obtain ⟨e0, e1, e2, e3, e4⟩ := cells5 (HB1.out.step HT.out)
  obtain ⟨x0, x1, x2, x3, x4⟩ := cells5 (HB2.out.step HT.out)
  have gz := (HS.out.trans HT.out).keeps.cell id HGZ.out
  repeat (first | (refine run_off rfl rfl (by rfl) ?_; (try simp only [Act.put, List.setIfInBounds_toArray, List.set_cons_zero, List.set_cons_succ])) | (refine run_chain_off rfl rfl (by rfl) (K0_mono _) ?_; (try simp only [Act.put, List.setIfInBounds_toArray, List.set_cons_zero, List.set_cons_succ])) | ((refine run_want rfl rfl (by rfl) ⟨?_, fun W hW => ?_, ?_⟩; rotate_left; (· (have d0 := hW.keeps.cell id x0; have d1 := hW.keeps.cell id x1; have d2 := hW.keeps.cell id x2; have d3 := hW.keeps.cell id x3; have d4 := hW.keeps.cell id x4; have d5 := hW.keeps.cell id e2; have d6 := hW.keeps.cell id e4; have d7 := hW.keeps.cell id gz; go_simp; (try with_reducible rfl)))); (try simp only [Act.put, List.setIfInBounds_toArray, List.set_cons_zero, List.set_cons_succ])))
  refine run_chain rfl rfl (by rfl) (fun Wi hWi K' hK => ?_)
  have HTi := Lib.hid (HT.out.trans hWi)
  have HZW := Lib.hid HTi.out.size
  clear hWi HT
  go_simp
  refine (rising_any T m.seats z (by omega) _ Wi (HM.out.keep (.of_step HTi.out))).mono ?_
  rintro e wn ⟨rfl, hSn⟩
  have HT := Lib.hid (HTi.out.trans (StepX.of hSn))
  clear HTi
  have HF := Lib.hid (show messV h m = risingB m.seats z by simp only [messV, Q1.out, Q2.out, Q4.out, Q5.out, seats_rising, HZ.out]; simp [Q3.out])
  refine hK _ _ (StepX.of hSn) ?_
  clear hSn
  (try simp only [Act.put, List.setIfInBounds_toArray, List.set_cons_zero, List.set_cons_succ])
  repeat (first | (refine run_off rfl rfl (by rfl) ?_; (try simp only [Act.put, List.setIfInBounds_toArray, List.set_cons_zero, List.set_cons_succ])) | (refine run_chain_off rfl rfl (by rfl) (K0_mono _) ?_; (try simp only [Act.put, List.setIfInBounds_toArray, List.set_cons_zero, List.set_cons_succ])) | ((refine run_want rfl rfl (by rfl) ⟨?_, fun W hW => ?_, ?_⟩; rotate_left; (· (obtain ⟨hc'', hf''⟩ := hW.cells; go_simp; (try with_reducible rfl)))); (try simp only [Act.put, List.setIfInBounds_toArray, List.set_cons_zero, List.set_cons_succ])))
  refine run_end (L := []) rfl (fun W6 hW6 => ?_)
  have HT6 := Lib.hid (HT.out.trans hW6)
  clear hW6 HT
  have HT := HT6
  clear HT6
  go_wp2
  go_ret
  exact ⟨by rw [HF.out]; rfl, HS.out.trans HT.out⟩
end Go.Proofs.Ytbgfmikbhiblgaa
/- Walks: the reference's Take. -/
namespace Go.Proofs.Ytbgfmikbhiblgaa
set_option linter.unusedSimpArgs false
set_option linter.unusedVariables false
open Go.RowKit Go.BT

section
variable {base : Nat} {w w' : World} {g : Nat} {b : Book} {vs vo vt : Value} {xs : List Value}
theorem Desk6.bx_took (D : Desk6 base w g b vs vo vt xs) (hg : w.grownBy w' vt.ownBlock) : Bx w' g [.int .i64 b.agency, vs, vo, .int .i64 b.sent, vt, .int .i64 b.cash] 30 := by
  obtain ⟨ts, ht⟩ := own_rowT D.took
  exact D.bx.keep (S := fun j => vt.ownBlock = some j) (.grown hg fun j hj _ => hj) (apart_bx D.bx ht (by decide))
theorem Desk6.setTook {vt' : Value} {l' : List Key} (D : Desk6 base w g b vs vo vt xs) (hg : w.grownBy w' vt.ownBlock) (ho : OwnL (fun _ => False) base 123 w' vt' l') :
    Desk6 base (w'.setCell ⟨g, 4, none⟩ vt') g { b with took := l' } vs vo vt' xs := by
  obtain ⟨ts, ht⟩ := own_rowT D.took
  have hne : ∀ {b3 s3 : Nat} {e3 : TypeId} {v3 : Value} {n3 : Nat} {x3 : List Value}, w.ownsRow b3 e3 s3 v3 n3 x3 → e3 ≠ 123 → v3.ownBlock = none ∨ v3.ownBlock ≠ vt.ownBlock := fun {b3 s3 e3 v3 n3 x3} h3 h4 => by
    cases hq : v3.ownBlock with
    | none => exact .inl rfl
    | some q => exact .inr fun he => apart_rows h3 ht h4 q hq he.symm
  have hb7 := D.bx_took hg
  have ho7 := D.outer.kept hg (hne D.outer (by decide))
  have hr7 : ∀ i (hi : i < b.seats.length) (hx : i < xs.length), OwnI base 3 w' xs[i] b.seats[i] := fun i hi hx => (D.row i hi hx).kept hg (hne (D.row i hi hx) (by decide))
  have hf7 := D.off.kept hg (hne D.off (by decide))
  have hw : Wrote g w' (w'.setCell ⟨g, 4, none⟩ vt') := Wrote.setCell w' g 4 _
  obtain ⟨us, hu⟩ := own_rowT ho
  exact
    { bx := by simpa using hb7.setCell 4 vt', gb := D.gb, outer := ho7.kept hw.grown (.inr (apart_bx hb7 ho7 (by decide))), row := fun i hi hx => (hr7 i hi hx).kept hw.grown (.inr (apart_bx hb7 (hr7 i hi hx) (by decide))),
      off := hf7.kept hw.grown (.inr (apart_bx hb7 hf7 (by decide))), took := ho.keptF fun k hk' => hw.block k (fun e => apart_bx hb7 hu (by decide) (e ▸ hk')), apart := D.apart }
end
theorem int_low {x : Int} (h1 : -1 ≤ x) : decide (x = -1) = !decide (0 ≤ x) := by
  by_cases q : 0 ≤ x
  · rw [decide_eq_true q, decide_eq_false (by omega)]; rfl
  · rw [decide_eq_false q, decide_eq_true (by omega)]; rfl
set_option maxRecDepth 100000 in
set_option maxHeartbeats 8000000 in
theorem RTake_any (S T : Nat → Prop) (h : House) (b : Book) (m : BT.Message) (v u x : Value) (w : World) (hv : AV S w v h) (hu : AV S w u b) (hx : AV T w x m) (hok : valid h = true) (hbk : bookB h b = true) :
    Calls Try.prog 41 #[v, u, x] w (fun e w' => RActEnds (takeD h b m) e w w') := by
  obtain ⟨hO, hcash, hc0, hthin⟩ := okDesk_book hok hbk
  obtain ⟨cs, rfl, hr0⟩ := hv
  have hr := hr0
  obtain ⟨c0, c1, c2, c3, c4, rfl, h0, h1, h2, h3, h4⟩ := hr
  obtain ⟨p0, k0, rfl⟩ := h0.form
  obtain ⟨p1, k1, rfl⟩ := h1.form
  obtain ⟨p2, k2, rfl⟩ := h2.form
  obtain ⟨p3, k3, rfl⟩ := h3.form
  obtain ⟨p4, k4, rfl⟩ := h4.form
  obtain ⟨cs, rfl, hq0⟩ := hu
  have hq := hq0
  obtain ⟨d1, d2, d4, rfl, s1, s2, s4⟩ := hq
  obtain ⟨q1, m1, bs, os, rfl, _, _, hp1, hc1, _⟩ := s1.rows
  obtain ⟨q2, m2, rfl⟩ := s2.form
  obtain ⟨q4, m4, rfl⟩ := s4.form
  have hbv := bounds_valid hok
  obtain ⟨z, hz⟩ : ∃ z : Nat, sizeL h.sectors = z := ⟨(sizeL h.sectors).toNat, by omega⟩
  have hz100 : z ≤ 100 := by omega
  have hz0 : 0 < z := by have := size_pos hok; omega
  obtain ⟨mf, md, mn, ms, l⟩ := m
  obtain ⟨mc, rfl, hms⟩ := hx.message
  dsimp only at hms ⊢
  obtain ⟨pu, cu, bu, ou, rfl, _, hlm, hpu, hcu, hbu⟩ := hms.ints
  obtain ⟨W3, hW3⟩ : ∃ W3, W3 = (((w.alloc (.cells #[.slice p0 h.sectors.length k0, .slice p1 h.prices.length k1, .slice p2 h.dates.length k2, .slice p3 h.frm.length k3, .slice p4 h.holds.length k4] 26)).alloc (.cells #[.int .i64 b.agency, .slice q1 b.seats.length m1, .slice q2 b.off.length m2, .int .i64 b.sent, .slice q4 b.took.length m4, .int .i64 b.cash] 30)).alloc (.cells #[.int .i64 mf, .int .i64 md, .int .i64 mn, .int .i64 ms, .slice pu l.length cu] 73)).alloc (.cells #[.int .i64 0, .slice none 0 0, .slice none 0 0, .int .i64 0, .slice none 0 0, .int .i64 0] 30) := ⟨_, rfl⟩
  have hbx : Bx W3 w.heap.size [.slice p0 h.sectors.length k0, .slice p1 h.prices.length k1, .slice p2 h.dates.length k2, .slice p3 h.frm.length k3, .slice p4 h.holds.length k4] 26 := by subst hW3; exact (((Bx.new _ _ _).alloc _).alloc _).alloc _
  have hb2 : Bx W3 (w.heap.size + 1) [.int .i64 b.agency, .slice q1 b.seats.length m1, .slice q2 b.off.length m2, .int .i64 b.sent, .slice q4 b.took.length m4, .int .i64 b.cash] 30 := by subst hW3; exact ((Bx.new' _ _ _ _ (by simp)).alloc _).alloc _
  have hbm : Bx W3 (w.heap.size + 2) [.int .i64 mf, .int .i64 md, .int .i64 mn, .int .i64 ms, .slice pu l.length cu] 73 := by subst hW3; exact (Bx.new' _ [_, _, _, _, _] _ _ (by simp)).alloc _
  have hb3 : Bx W3 (w.heap.size + 3) [.int .i64 0, .slice none 0 0, .slice none 0 0, .int .i64 0, .slice none 0 0, .int .i64 0] 30 := by subst hW3; exact Bx.new' _ _ _ _ (by simp)
  have hS : Step w W3 := by subst hW3; exact (by repeat (first | (with_reducible assumption) | (with_reducible exact Step.refl _) | (with_reducible apply Step.s_alloc) | (with_reducible apply Step.s_drew) | (with_reducible apply Step.s_drewN) | (with_reducible refine Step.trans ?_ (by with_reducible assumption))))
  have hz3 : W3.heap.size = w.heap.size + 4 := by subst hW3; simp
  have HO := Lib.hid hO
  have HC0 := Lib.hid (And.intro hc0 hcash)
  have HTH := Lib.hid hthin
  have HB1 := Lib.hid hbx
  have HB2 := Lib.hid hb2
  have HB3 := Lib.hid hb3
  have HBM := Lib.hid hbm
  have HMS := Lib.hid (AV.keep (.of_step hS) hx)
  have HU := Lib.hid (And.intro hpu hcu)
  have HR := Lib.hid (Rep.keep (.of_step hS) hr0)
  have HQ := Lib.hid (Rep.keep (.of_step hS) hq0)
  have HSHOW := Lib.hid (And.intro h2 (And.intro h3 s2))
  have HS := Lib.hid hS
  have HZ3 := Lib.hid hz3
  have HZ := Lib.hid hz
  have HP1 := Lib.hid (And.intro hp1 hc1)
  have HOK := Lib.hid hok
  have HBK := Lib.hid hbk
  have HBV := Lib.hid hbv
  have hn1 : 1 ≤ h.dates.length ∧ h.dates.length ≤ 6 := by omega
  have HT := Lib.hid (Step.refl W3)
  have HW := Lib.hid hW3
  clear hx hms hpu hcu hbu hbm hr0 hq0 h0 h1 h2 h3 h4 s1 s2 s4 hbx hb2 hb3 hS hz3 hz hp1 hc1 hok hbk hbv hW3 hO hcash hc0 hthin
  go_enter Try.func41, Try.ntmps41
  go_wp2_with fail
  rw [show w.heap.size + 1 + 1 = w.heap.size + 2 from rfl, show w.heap.size + 2 + 1 = w.heap.size + 3 from rfl, ← HW.out]
  refine (RightMessage_any S T h ⟨mf, md, mn, ms, l⟩ _ _ _ ⟨_, rfl, HR.out⟩ HMS.out HOK.out).mono ?_
  rintro e wn ⟨rfl, hSn⟩
  have HTi := Lib.hid (HT.out.trans hSn)
  clear hSn HT
  have HT := HTi
  clear HTi
  cases q1 : messV h ⟨mf, md, mn, ms, l⟩ with
  | false =>
    have HF := Lib.hid (show takeE h b ⟨mf, md, mn, ms, l⟩ = 1 by simp [takeE, q1])
    clear q1
    (try clear e0 e1 e2 e3 e4 f0 f1 f2 f3 f4 f5)
    obtain ⟨e0, e1, e2, e3, e4⟩ := cells5 (HB1.out.step HT.out)
    obtain ⟨f0, f1, f2, f3, f4, f5⟩ := cells6 (HB2.out.step HT.out)
    obtain ⟨g0, g1, g2, g3, g4, g5⟩ := cells6 (HB3.out.step HT.out)
    have t0 := (HB3.out.step HT.out).frozen 0
    have t1 := (HB3.out.step HT.out).frozen 1
    have t2 := (HB3.out.step HT.out).frozen 2
    have t3 := (HB3.out.step HT.out).frozen 3
    have t4 := (HB3.out.step HT.out).frozen 4
    have t5 := (HB3.out.step HT.out).frozen 5
    go_wp2
    have b6 := set6 (HB3.out.step HT.out) (.int .i64 0) (.slice none 0 0) (.slice none 0 0) (.int .i64 0) (.slice none 0 0) (.int .i64 0)
    exact ret_struct2 (k := 6) rfl siRefBook rfl b6.1 rfl rfl (.no (takeD_no HF.out (by simp)) rfl (StepX.fresh (HS.out.trans HT.out) b6.2 (fun j hj => by omega)))
  | true =>
  have Q1 := Lib.hid q1
  clear q1
  obtain ⟨q3, q4⟩ := mess_parts Q1.out
  dsimp only at q3 q4
  obtain ⟨i, rfl, hi0, hi1⟩ := within_nat q3 (by omega)
  have Q4 := Lib.hid q4
  have hi : i < h.dates.length := by omega
  clear q3 q4 hi0 hi1
  (try clear x0 x1 x2 x3 x4)
  obtain ⟨x0, x1, x2, x3, x4⟩ := cells5 (HBM.out.step HT.out)
  (try clear e0 e1 e2 e3 e4 f0 f1 f2 f3 f4 f5)
  obtain ⟨e0, e1, e2, e3, e4⟩ := cells5 (HB1.out.step HT.out)
  obtain ⟨f0, f1, f2, f3, f4, f5⟩ := cells6 (HB2.out.step HT.out)
  by_cases q2 : md = b.agency
  rotate_left
  · have hd : (md != b.agency) = true := by simpa using q2
    have HF := Lib.hid (show takeE h b ⟨mf, md, mn, i, l⟩ = 2 by simp only [takeE, Q1.out]; simp [q2])
    clear q2
    (try clear e0 e1 e2 e3 e4 f0 f1 f2 f3 f4 f5)
    obtain ⟨e0, e1, e2, e3, e4⟩ := cells5 (HB1.out.step HT.out)
    obtain ⟨f0, f1, f2, f3, f4, f5⟩ := cells6 (HB2.out.step HT.out)
    obtain ⟨g0, g1, g2, g3, g4, g5⟩ := cells6 (HB3.out.step HT.out)
    have t0 := (HB3.out.step HT.out).frozen 0
    have t1 := (HB3.out.step HT.out).frozen 1
    have t2 := (HB3.out.step HT.out).frozen 2
    have t3 := (HB3.out.step HT.out).frozen 3
    have t4 := (HB3.out.step HT.out).frozen 4
    have t5 := (HB3.out.step HT.out).frozen 5
    go_wp2
    have b6 := set6 (HB3.out.step HT.out) (.int .i64 0) (.slice none 0 0) (.slice none 0 0) (.int .i64 0) (.slice none 0 0) (.int .i64 0)
    exact ret_struct2 (k := 6) rfl siRefBook rfl b6.1 rfl rfl (.no (takeD_no HF.out (by simp)) rfl (StepX.fresh (HS.out.trans HT.out) b6.2 (fun j hj => by omega)))
  have hd : (md != b.agency) = false := by simpa using q2
  have Q2 := Lib.hid q2
  clear q2
  go_wp2_with fail
  refine (Has_any S T b ⟨mf, md, mn, i, l⟩ _ _ _ ⟨_, rfl, Rep.keep (.of_step HT.out) HQ.out⟩ (AV.keep (.of_step HT.out) HMS.out)).mono ?_
  rintro e wn2 ⟨rfl, hSn⟩
  clear hd e0 e1 e2 e3 e4 f0 f1 f2 f3 f4 f5 x0 x1 x2 x3 x4
  have HTi := Lib.hid (HT.out.trans hSn)
  clear hSn HT
  have HT := HTi
  clear HTi
  cases q3 : hasK b.took (keyOf ⟨mf, md, mn, i, l⟩) with
  | true =>
    have HF := Lib.hid (show takeE h b ⟨mf, md, mn, i, l⟩ = 6 from takeE_6 Q1.out Q2.out q3)
    clear q3
    (try clear e0 e1 e2 e3 e4 f0 f1 f2 f3 f4 f5)
    obtain ⟨e0, e1, e2, e3, e4⟩ := cells5 (HB1.out.step HT.out)
    obtain ⟨f0, f1, f2, f3, f4, f5⟩ := cells6 (HB2.out.step HT.out)
    obtain ⟨g0, g1, g2, g3, g4, g5⟩ := cells6 (HB3.out.step HT.out)
    have t0 := (HB3.out.step HT.out).frozen 0
    have t1 := (HB3.out.step HT.out).frozen 1
    have t2 := (HB3.out.step HT.out).frozen 2
    have t3 := (HB3.out.step HT.out).frozen 3
    have t4 := (HB3.out.step HT.out).frozen 4
    have t5 := (HB3.out.step HT.out).frozen 5
    go_wp2
    have b6 := set6 (HB3.out.step HT.out) (.int .i64 0) (.slice none 0 0) (.slice none 0 0) (.int .i64 0) (.slice none 0 0) (.int .i64 0)
    exact ret_struct2 (k := 6) rfl siRefBook rfl b6.1 rfl rfl (.no (takeD_no HF.out (by simp)) rfl (StepX.fresh (HS.out.trans HT.out) b6.2 (fun j hj => by omega)))
  | false =>
  have Q3 := Lib.hid q3
  clear q3
  have his : i < b.seats.length := by have := HO.out.2.2.1; omega
  have hrl : ∀ b', OkDesk h b' → ∀ s (hs : s < b'.seats.length), b'.seats[s].length = z := fun b' hb s hs => by have := hb.2.2.2.1 s hs; have := HZ.out; omega
  have HRL := Lib.hid hrl
  obtain rfl := HP1.out.1 (by omega)
  obtain ⟨ur, hr1, hr2⟩ := HP1.out.2 i his
  obtain ⟨pr, cr, br, orr, rfl, _, _, hpr, hcr, _⟩ := hr2.ints
  obtain rfl := hpr (by rw [hrl _ HO.out]; exact hz0)
  have hcr2 : ∀ j, j < z → w.cell? ⟨br, orr + j, none⟩ = some (.int .i64 (seatAt b i j)) := fun j hjz => by
    rw [hcr j (by rw [hrl _ HO.out]; exact hjz)]
    simp [seatAt, List.getD_eq_getElem?_getD, his, show j < b.seats[i].length by rw [hrl _ HO.out]; exact hjz]
  have hlow : ∀ j : Nat, j < z → -1 ≤ seatAt b i j := fun j hjz => by
    have h1 := seat_low HBK.out his (show j < b.seats[i].length by rw [hrl _ HO.out]; exact hjz)
    simpa [seatAt, List.getD_eq_getElem?_getD, his, show j < b.seats[i].length by rw [hrl _ HO.out]; exact hjz] using h1
  rw [hrl _ HO.out] at hr1
  have HROW := Lib.hid (And.intro hr1 hcr2)
  have HLOW := Lib.hid hlow
  have hx2 : (0 : Int) ≤ (i : Int) ∧ (i : Int) < (b.seats.length : Int) := by omega
  clear hr1 hr2 hpr hcr hcr2 hrl hlow
  go_wp2_with fail
  go_loopw [8] (fun idx wr => ∃ k : Nat, k ≤ l.length ∧ idx = .int .i64 k ∧ ((l.take k).all fun j => decide (seatAt b i j = -1)) = true ∧ Step W3 wr) (fun idx _ => l.length - (intOf idx).toNat)
  case atStart => exact ⟨0, Nat.zero_le _, rfl, by simp, HT.out⟩
  case round =>
    obtain ⟨k, hk, rfl, ha, hT⟩ := hrel
    clear HT
    have HA := Lib.hid ha
    have HT := Lib.hid hT
    clear ha hT
    (try clear x0 x1 x2 x3 x4)
    obtain ⟨x0, x1, x2, x3, x4⟩ := cells5 (HBM.out.step HT.out)
    by_cases hlt : k < l.length
    · obtain ⟨j, hj, hjz⟩ := seats_nat Q4.out hlt
      have HJ := Lib.hid hj
      have hjz2 : j < z := by have := HZ.out; omega
      obtain rfl := HU.out.1 (by omega)
      obtain ⟨y, hy⟩ : ∃ y, y = seatAt b i j := ⟨_, rfl⟩
      have hylow := HLOW.out j hjz2
      rw [← hy] at hylow
      have HY := Lib.hid hy
      have HYL := Lib.hid hylow
      clear hy hylow hj
      have hx3 : (0 : Int) ≤ (k : Int) ∧ (k : Int) < (l.length : Int) := by omega
      have hx4 : (0 : Int) ≤ (j : Int) ∧ (j : Int) < (z : Int) := by omega
      go_upto_region 10 with (fail)
      refine wp_region_seq (kdOf [] []) [0, 1, 0, 4, 15, 31, 0, 64, 0, 448, 960, 2047, 4095, 8191] [0, 1, 2, 3, 4, 5, 6, 7, 8, 9, 10, 11, 12, 13] [] (by kernel_rfl) (by kernel_rfl) (fun i T z hi hk => by simp [kdOf] at hk <;> (try (split at hk <;> cases hk))) ?_
      intro Wx hWx
      have HTx := Lib.hid (HT.out.trans hWx)
      clear hWx HT
      have HT := HTx
      clear HTx
      (try clear x0 x1 x2 x3 x4)
      obtain ⟨x0, x1, x2, x3, x4⟩ := cells5 (HBM.out.step HT.out)
      (try clear e0 e1 e2 e3 e4 f0 f1 f2 f3 f4 f5)
      obtain ⟨e0, e1, e2, e3, e4⟩ := cells5 (HB1.out.step HT.out)
      obtain ⟨f0, f1, f2, f3, f4, f5⟩ := cells6 (HB2.out.step HT.out)
      have hl0 := (HS.out.trans HT.out).keeps.cell id (HU.out.2 k hlt)
      rw [HJ.out] at hl0
      have r1 := (HS.out.trans HT.out).keeps.cell id HROW.out.1
      have r2 := (HS.out.trans HT.out).keeps.cell id (HROW.out.2 j hjz2)
      rw [← HY.out] at r2
      by_cases q5 : 0 ≤ y
      · have hd : decide (0 ≤ y) = true := by simpa using q5
        have HF := Lib.hid (show takeE h b ⟨mf, md, mn, i, l⟩ = 8 by
          rw [takeE_at Q1.out Q2.out Q3.out, if_pos ?_]
          rw [List.all_eq_false]
          exact ⟨l[k], List.getElem_mem hlt, by rw [HJ.out, ← HY.out]; simp; omega⟩)
        repeat (first | (refine run_off rfl rfl (by rfl) ?_; (try simp only [Act.put, List.setIfInBounds_toArray, List.set_cons_zero, List.set_cons_succ])) | (refine run_chain_off rfl rfl (by rfl) (K0_mono _) ?_; (try simp only [Act.put, List.setIfInBounds_toArray, List.set_cons_zero, List.set_cons_succ])) | ((refine run_want rfl rfl (by rfl) ⟨?_, fun W hW => ?_, ?_⟩; rotate_left; (· (have d0 := hW.keeps.cell id x0; have d1 := hW.keeps.cell id x1; have d2 := hW.keeps.cell id x2; have d3 := hW.keeps.cell id x3; have d4 := hW.keeps.cell id x4; have d5 := hW.keeps.cell id f1; have d6 := hW.keeps.cell id hl0; have d7 := hW.keeps.cell id r1; have d8 := hW.keeps.cell id r2; go_simp; (try with_reducible rfl)))); (try simp only [Act.put, List.setIfInBounds_toArray, List.set_cons_zero, List.set_cons_succ])))
        refine run_end (L := []) rfl (fun W6 hW6 => ?_)
        have HT6 := Lib.hid (HT.out.trans hW6)
        clear hW6 HT
        have HT := HT6
        clear HT6
        clear q5 x0 x1 x2 x3 x4 hl0 r1 r2
        (try clear e0 e1 e2 e3 e4 f0 f1 f2 f3 f4 f5)
        obtain ⟨e0, e1, e2, e3, e4⟩ := cells5 (HB1.out.step HT.out)
        obtain ⟨f0, f1, f2, f3, f4, f5⟩ := cells6 (HB2.out.step HT.out)
        obtain ⟨g0, g1, g2, g3, g4, g5⟩ := cells6 (HB3.out.step HT.out)
        have t0 := (HB3.out.step HT.out).frozen 0
        have t1 := (HB3.out.step HT.out).frozen 1
        have t2 := (HB3.out.step HT.out).frozen 2
        have t3 := (HB3.out.step HT.out).frozen 3
        have t4 := (HB3.out.step HT.out).frozen 4
        have t5 := (HB3.out.step HT.out).frozen 5
        go_wp2
        have b6 := set6 (HB3.out.step HT.out) (.int .i64 0) (.slice none 0 0) (.slice none 0 0) (.int .i64 0) (.slice none 0 0) (.int .i64 0)
        exact ret_struct2 (k := 6) rfl siRefBook rfl b6.1 rfl rfl (.no (takeD_no HF.out (by simp)) rfl (StepX.fresh (HS.out.trans HT.out) b6.2 (fun j hj => by omega)))
      · have hd : decide (0 ≤ y) = false := by simp; omega
        have HQ := Lib.hid (show decide (seatAt b i l[k] = -1) = true by rw [HJ.out, ← HY.out, int_low HYL.out, hd]; rfl)
        repeat (first | (refine run_off rfl rfl (by rfl) ?_; (try simp only [Act.put, List.setIfInBounds_toArray, List.set_cons_zero, List.set_cons_succ])) | (refine run_chain_off rfl rfl (by rfl) (K0_mono _) ?_; (try simp only [Act.put, List.setIfInBounds_toArray, List.set_cons_zero, List.set_cons_succ])) | ((refine run_want rfl rfl (by rfl) ⟨?_, fun W hW => ?_, ?_⟩; rotate_left; (· (have d0 := hW.keeps.cell id x0; have d1 := hW.keeps.cell id x1; have d2 := hW.keeps.cell id x2; have d3 := hW.keeps.cell id x3; have d4 := hW.keeps.cell id x4; have d5 := hW.keeps.cell id f1; have d6 := hW.keeps.cell id hl0; have d7 := hW.keeps.cell id r1; have d8 := hW.keeps.cell id r2; go_simp; (try with_reducible rfl)))); (try simp only [Act.put, List.setIfInBounds_toArray, List.set_cons_zero, List.set_cons_succ])))
        refine run_end (L := []) rfl (fun W6 hW6 => ?_)
        have HT6 := Lib.hid (HT.out.trans hW6)
        clear hW6 HT
        have HT := HT6
        clear HT6
        clear q5 x0 x1 x2 x3 x4 hl0 r1 r2
        go_wp2
        go_roundw
        case rel => exact ⟨k + 1, by omega, by go_num, all_take (p := fun j => decide (seatAt b i j = -1)) HA.out hlt HQ.out, HT.out⟩
        case measure => simp [intOf]; omega
    · have Q5 := Lib.hid (show (l.all fun j => decide (seatAt b i j = -1)) = true by have := HA.out; rwa [List.take_of_length_le (by omega)] at this)
      clear HA
      (try clear e0 e1 e2 e3 e4 f0 f1 f2 f3 f4 f5)
      obtain ⟨e0, e1, e2, e3, e4⟩ := cells5 (HB1.out.step HT.out)
      obtain ⟨f0, f1, f2, f3, f4, f5⟩ := cells6 (HB2.out.step HT.out)
      by_cases q6 : b.took.length < 1000
      rotate_left
      · have HF := Lib.hid (show takeE h b ⟨mf, md, mn, i, l⟩ = 3 by rw [takeE_at Q1.out Q2.out Q3.out, if_neg (by rw [Q5.out]; simp), if_pos (by omega)])
        have hd : decide ((1000 : Int) ≤ (b.took.length : Int)) = true := by simp; omega
        clear q6
        (try clear e0 e1 e2 e3 e4 f0 f1 f2 f3 f4 f5)
        obtain ⟨e0, e1, e2, e3, e4⟩ := cells5 (HB1.out.step HT.out)
        obtain ⟨f0, f1, f2, f3, f4, f5⟩ := cells6 (HB2.out.step HT.out)
        obtain ⟨g0, g1, g2, g3, g4, g5⟩ := cells6 (HB3.out.step HT.out)
        have t0 := (HB3.out.step HT.out).frozen 0
        have t1 := (HB3.out.step HT.out).frozen 1
        have t2 := (HB3.out.step HT.out).frozen 2
        have t3 := (HB3.out.step HT.out).frozen 3
        have t4 := (HB3.out.step HT.out).frozen 4
        have t5 := (HB3.out.step HT.out).frozen 5
        go_wp2
        have b6 := set6 (HB3.out.step HT.out) (.int .i64 0) (.slice none 0 0) (.slice none 0 0) (.int .i64 0) (.slice none 0 0) (.int .i64 0)
        exact ret_struct2 (k := 6) rfl siRefBook rfl b6.1 rfl rfl (.no (takeD_no HF.out (by simp)) rfl (StepX.fresh (HS.out.trans HT.out) b6.2 (fun j hj => by omega)))
      have HF := Lib.hid (show takeE h b ⟨mf, md, mn, i, l⟩ = 0 by rw [takeE_at Q1.out Q2.out Q3.out, if_neg (by rw [Q5.out]; simp), if_neg (by omega)])
      have hd : decide ((1000 : Int) ≤ (b.took.length : Int)) = false := by simp; omega
      have Q6 := Lib.hid q6
      clear q6
      go_wp2_with fail
      refine (Copy_any S b _ _ ⟨_, rfl, Rep.keep (.of_step HT.out) HQ.out⟩ HTH.out).mono ?_
      rintro e wd ⟨vs, vo, vt, xs, rfl, hD0, hSd⟩
      obtain ⟨⟨pvs, cvs, rfl⟩, ⟨pvo, cvo, rfl⟩, ⟨pvt, cvt, rfl⟩⟩ := hD0.form
      have hTd := HT.out.trans hSd
      have hbase : w.heap.size + 4 ≤ wd.heap.size := by have := hTd.size; have := HZ3.out; omega
      have hbase2 : w.heap.size + 4 ≤ wr.heap.size := by have := HT.out.size; have := HZ3.out; omega
      clear hd e0 e1 e2 e3 e4 f0 f1 f2 f3 f4 f5 x0 x1 x2 x3 x4
      have hbD := Bx.new wd [.int .i64 b.agency, .slice pvs b.seats.length cvs, .slice pvo b.off.length cvo, .int .i64 b.sent, .slice pvt b.took.length cvt, .int .i64 b.cash] 30
      have hsA := Step.alloc wd (.cells #[.int .i64 b.agency, .slice pvs b.seats.length cvs, .slice pvo b.off.length cvo, .int .i64 b.sent, .slice pvt b.took.length cvt, .int .i64 b.cash] 30)
      have hD1 := (hD0.step hsA).desk (b2 := w.heap.size + 4) hbase2 hbase hbD
      have hT1 := hTd.trans hsA
      obtain ⟨⟨gs, cs, hvs⟩, hforms⟩ := hD1.forms HO.out HZ.out hz0
      injection hvs with hvs1 hvs2 hvs3
      subst hvs1 hvs3
      clear hvs2
      obtain ⟨hxi, gi, ci, hxv⟩ := hforms i hi
      have HXV := Lib.hid hxv
      have HT1 := Lib.hid hT1
      have HD1 := Lib.hid hD1
      clear hforms hxv hbD hsA hTd hSd hD0 hbase hbase2 hT1 hD1
      go_wp2_with fail
      have HT := HT1
      generalize wd.alloc (.cells #[.int .i64 b.agency, .slice (some ⟨gs, 0, none⟩) b.seats.length cvs, .slice pvo b.off.length cvo, .int .i64 b.sent, .slice pvt b.took.length cvt, .int .i64 b.cash] 30) = w2 at *
      generalize wd.heap.size = gb at *
      go_loopw [10] (fun idx wr => ∃ k : Nat, k ≤ l.length ∧ idx = .int .i64 k ∧ Desk6 (w.heap.size + 4) wr gb (takeTo b i (l.take k)) (.slice (some ⟨gs, 0, none⟩) b.seats.length cvs) (.slice pvo b.off.length cvo) (.slice pvt b.took.length cvt) xs ∧ Step W3 wr) (fun idx _ => l.length - (intOf idx).toNat)
      case atStart => exact ⟨0, Nat.zero_le _, rfl, HD1.out, HT1.out⟩
      case round =>
        obtain ⟨k, hk, rfl, hDk, hT⟩ := hrel
        clear HT
        have HT := Lib.hid hT
        have hOk := (like_take b i (l.take k)).ok HO.out (by have := HO.out.2.2.2.2.2.2.1; omega)
        have HDK := Lib.hid hDk
        have HOKK := Lib.hid hOk
        clear hDk hT hOk
        (try clear x0 x1 x2 x3 x4)
        obtain ⟨x0, x1, x2, x3, x4⟩ := cells5 (HBM.out.step HT.out)
        by_cases hlt : k < l.length
        · obtain ⟨j, hj, hjz⟩ := seats_nat Q4.out hlt
          have HJ := Lib.hid hj
          have hjz2 : j < z := by have := HZ.out; omega
          obtain rfl := HU.out.1 (by omega)
          have hisk : i < (takeTo b i (l.take k)).seats.length := by have := HOKK.out.2.2.1; omega
          have hjk : j < (takeTo b i (l.take k)).seats[i].length := by rw [HRL.out _ HOKK.out]; exact hjz2
          obtain ⟨m0, m1, z1, _, hgir⟩ := HDK.out.seat_c hisk hxi HXV.out hjk
          have HM := Lib.hid (And.intro m0 z1)
          have hx3 : (0 : Int) ≤ (k : Int) ∧ (k : Int) < (l.length : Int) := by omega
          have hx4 : (0 : Int) ≤ (j : Int) ∧ (j : Int) < (z : Int) := by omega
          clear hj m0 m1 z1
          go_upto_region 18 with (fail)
          refine wp_region_seq (kdOf [] []) [0, 1, 0, 4, 15, 31, 0, 64, 0, 448, 960, 2047, 4095] [0, 1, 2, 3, 4, 5, 6, 7, 8, 9, 10, 11] [12] (by kernel_rfl) (by kernel_rfl) (fun i T z hi hk => by simp [kdOf] at hk <;> (try (split at hk <;> cases hk))) ?_
          intro Wx hWx
          have HSX := Lib.hid hWx
          have HTW := HT
          have HTx := Lib.hid (HT.out.trans hWx)
          clear hWx HT
          have HT := HTx
          clear HTx
          (try clear x0 x1 x2 x3 x4)
          obtain ⟨x0, x1, x2, x3, x4⟩ := cells5 (HBM.out.step HT.out)
          obtain ⟨_, y1, _, _, _, _⟩ := cells6 (HDK.out.step HSX.out).bx
          have hl0 := (HS.out.trans HT.out).keeps.cell id (HU.out.2 k hlt)
          rw [HJ.out] at hl0
          have m0 := HSX.out.keeps.cell id HM.out.1
          have HT0 := HT
          have HT := HSX
          repeat (first | (refine run_off rfl rfl (by rfl) ?_; (try simp only [Act.put, List.setIfInBounds_toArray, List.set_cons_zero, List.set_cons_succ])) | (refine run_chain_off rfl rfl (by rfl) (K0_mono _) ?_; (try simp only [Act.put, List.setIfInBounds_toArray, List.set_cons_zero, List.set_cons_succ])) | ((refine run_want rfl rfl (by rfl) ⟨?_, fun W hW => ?_, ?_⟩; rotate_left; (· (have d0 := hW.keeps.cell id x0; have d1 := hW.keeps.cell id x1; have d2 := hW.keeps.cell id x2; have d3 := hW.keeps.cell id x3; have d4 := hW.keeps.cell id x4; have d5 := hW.keeps.cell id y1; have d6 := hW.keeps.cell id hl0; have d7 := hW.keeps.cell id m0; go_simp; (try with_reducible rfl)))); (try simp only [Act.put, List.setIfInBounds_toArray, List.set_cons_zero, List.set_cons_succ])))
          refine run_end (L := [_]) rfl (fun W6 hW6 => ?_)
          have HT6 := Lib.hid (HT.out.trans hW6)
          clear hW6 HT
          have HT := HT6
          clear HT6
          have hD6 := HDK.out.step HT.out
          obtain ⟨_, m1, z1, _, _⟩ := hD6.seat_c hisk hxi HXV.out hjk
          have hset := hD6.setSeat (j := j) hisk hxi (by rw [HRL.out _ HOKK.out]; exact HXV.out) 0
          have H7 := Lib.hid (And.intro hset.1 (Step.setNew (HTW.out.trans HT.out) ⟨gi, j, none⟩ (.int .i64 0) (by have := hset.2; have := HZ3.out; show W3.heap.size ≤ gi; omega)))
          have HN := Lib.hid (show takeTo b i (l.take (k + 1)) = putSeat (takeTo b i (l.take k)) i j 0 by rw [List.take_succ_eq_append_getElem hlt, takeTo_snoc, HJ.out, Int.toNat_natCast])
          clear x0 x1 x2 x3 x4 y1 hl0 m0 hD6 hset
          go_wp2
          go_roundw
          case rel => exact ⟨k + 1, by omega, by go_num, by rw [HN.out]; exact H7.out⟩
          case measure => simp [intOf]; omega
        · have htk : takeTo b i (l.take k) = takeTo b i l := by rw [List.take_of_length_le (by omega)]
          rw [htk] at HDK HOKK
          have HFIN := Lib.hid (show takeD h b ⟨mf, md, mn, i, l⟩ = .ok { takeTo b i l with took := b.took ++ [⟨mf, mn⟩] } by rw [takeD_yes HF.out]; simp [takeP, keyOf])
          clear htk HF
          have hq6 := Q6.out
          obtain ⟨y0, y1, y2, y3, y4, y5⟩ := cells6 HDK.out.bx
          have hown : OwnL (fun _ => False) (w.heap.size + 4) 123 wr (.slice pvt b.took.length cvt) b.took := by have := HDK.out.took; rw [takeTo_took] at this; exact this
          have hn1 : b.took.length + [(⟨mf, mn⟩ : Key)].length = b.took.length + 1 := rfl
          have hn2 : b.took.length + 1 ≤ maxLen := by simp only [maxLen]; omega
          have hsA := Step.alloc wr (.cells #[.int .i64 mf, .int .i64 mn] 123)
          have hn3 : w.heap.size + 4 ≤ (wr.alloc (.cells #[.int .i64 mf, .int .i64 mn] 123)).heap.size := by have := HDK.out.gb; have := HDK.out.lt; have := hsA.size; omega
          have hown2 := hown.step hsA
          have hue := SLe.one (S := avoid (fun _ => False) (.slice pvt b.took.length cvt)) (w := wr) (cs := [.int .i64 mf, .int .i64 mn]) (x := (⟨mf, mn⟩ : Key)) 123 rfl
          go_wp2_with (at_builtin; refine wpl_append (α := Key) (S := fun _ => False) (base := w.heap.size + 4) (v := .slice pvt b.took.length cvt) (l := b.took) (m := [⟨mf, mn⟩]) eiRefKeys rfl _ _ rfl rfl rfl hown2 hue (b.took.length + 1) hn1 (b.took ++ [⟨mf, mn⟩]) rfl hn2 (by omega) hn3 ?_)
          intro p2 c2 w3 hown4 hg4
          have hD2 := HDK.out.step hsA
          have hD9 := hD2.setTook hg4 hown4
          have hT9 := (StepX.fresh (HT.out.trans hsA) (StepX.grown hg4 fun j hj _ => hj) (fun j hj => by have := (hown2.lt j hj).1; have := HZ3.out; omega)).setNew ⟨gb, 4, none⟩ (.slice p2 (b.took.length + 1) c2) (by have := hD2.gb; have := HZ3.out; show W3.heap.size ≤ gb; omega)
          have y4' := (hD2.bx_took hg4).cell 4
          have z4' := (hD2.bx_took hg4).frozen 4
          simp only [List.getElem?_cons_zero, List.getElem?_cons_succ] at y4'
          have H9 := Lib.hid (And.intro hD9 hT9)
          clear hown hn1 hn2 hsA hn3 hown2 hue hown4 hg4 hD2 hD9 hT9 y0 y1 y2 y3 y4 y5 x0 x1 x2 x3 x4
          go_upto_region 20 with (fail)
          clear y4' z4'
          generalize w3.setCell ⟨gb, 4, none⟩ (.slice p2 (b.took.length + 1) c2) = w9 at *
          obtain ⟨y0, y1, y2, y3, y4, y5⟩ := cells6 H9.out.1.bx
          have HT := Lib.hid H9.out.2
          obtain ⟨g0, g1, g2, g3, g4, g5⟩ := cells6 (HB3.out.step HT.out)
          have t0 := (HB3.out.step HT.out).frozen 0
          have t1 := (HB3.out.step HT.out).frozen 1
          have t2 := (HB3.out.step HT.out).frozen 2
          have t3 := (HB3.out.step HT.out).frozen 3
          have t4 := (HB3.out.step HT.out).frozen 4
          have t5 := (HB3.out.step HT.out).frozen 5
          go_wp2
          have b6 := set6 (HB3.out.step HT.out) (.int .i64 (takeTo b i l).agency) (.slice (some ⟨gs, 0, none⟩) b.seats.length cvs) (.slice pvo b.off.length cvo) (.int .i64 (takeTo b i l).sent) (.slice p2 (b.took.length + 1) c2) (.int .i64 (takeTo b i l).cash)
          refine ret_struct2 (k := 6) rfl siRefBook rfl b6.1 rfl rfl ?_
          unfold RActEnds
          rw [HFIN.out]
          exact ⟨_, rfl, ⟨_, rfl, Rep.weak (S := fun j => j < w.heap.size + 4) (fun j _ hj => by unfold Old at hj; omega) (Rep.keep (b6.2.keeps.mono fun j _ hj => by omega) (H9.out.1.book (fun j h1 h2 => by omega)))⟩, StepX.fresh (HS.out.trans HT.out) b6.2 (fun j hj => by omega)⟩
end Go.Proofs.Ytbgfmikbhiblgaa
/- Walks: the reference's Give. -/
namespace Go.Proofs.Ytbgfmikbhiblgaa
set_option linter.unusedSimpArgs false
set_option linter.unusedVariables false
open Go.RowKit Go.BT

theorem siRefMessage : SI Try.prog 73 5 := ⟨⟨_, Try.underlying73⟩, by kernel_rfl⟩
def RGiveEnds (r : Except Int (Book × BT.Message)) (e : Ending) (w w' : World) : Prop := ∃ v' m', e = .returned (.tuple #[v', m', .int .i64 (actR (bookOf r)).2]) ∧ AV (Old w) w' v' (actR (bookOf r)).1 ∧ AV (Old w) w' m' (restOf noMsg r) ∧ Step w w'
theorem noMsg_rep (S : Nat → Prop) (w : World) : Rep.rep S w [.int .i64 0, .int .i64 0, .int .i64 0, .int .i64 0, .slice none 0 0] noMsg := ⟨_, rfl, SL.nil _ _⟩
theorem RGiveEnds.no {r : Except Int (Book × BT.Message)} {c : Int} {w w' : World} {v : Value} (hr : r = .error c) (hv : v = .tuple #[.agg #[.int .i64 0, .slice none 0 0, .slice none 0 0, .int .i64 0, .slice none 0 0, .int .i64 0], .agg #[.int .i64 0, .int .i64 0, .int .i64 0, .int .i64 0, .slice none 0 0], .int .i64 c]) (hS : Step w w') : RGiveEnds r (.returned v) w w' := by
  unfold RGiveEnds
  rw [hr, hv]
  exact ⟨_, _, rfl, ⟨_, rfl, noBook_rep _ _⟩, ⟨_, rfl, noMsg_rep _ _⟩, hS⟩
theorem giveE_2 {h : House} {b : Book} {t s : Int} {l : List Int} (h1 : withinB t 0 (agN h - 1) = true) (h2 : t ≠ b.agency) (h3 : withinB s 0 (h.dates.length - 1) = true) (h4 : seatsB h l = true) :
    giveE h b t s l = if offAt b s = true then 8 else if (l.all fun j => decide (seatAt b s j ≠ -1)) = false then 7 else if (l.all fun j => !decide (0 < seatAt b s j)) = false then 6 else if 1000 ≤ b.sent then 3 else 0 := by
  unfold giveE; rw [h1, h3, h4, if_neg (by simp), if_neg h2, if_neg (by simp), if_neg (by simp)]
set_option maxRecDepth 100000 in
set_option maxHeartbeats 8000000 in
theorem RGive_any (S T : Nat → Prop) (h : House) (b : Book) (t s : Int) (l : List Int) (v u x : Value) (w : World) (hv : AV S w v h) (hu : AV S w u b) (hx : SL T w x l) (hl : l.length ≤ 1000000) (hok : valid h = true) (hbk : bookB h b = true) :
    Calls Try.prog 40 #[v, u, .int .i64 t, .int .i64 s, x] w (fun e w' => RGiveEnds (giveD h b t s l) e w w') := by
  obtain ⟨hO, hcash, hc0, hthin⟩ := okDesk_book hok hbk
  obtain ⟨cs, rfl, hr0⟩ := hv
  have hr := hr0
  obtain ⟨c0, c1, c2, c3, c4, rfl, h0, h1, h2, h3, h4⟩ := hr
  obtain ⟨p0, k0, rfl⟩ := h0.form
  obtain ⟨p1, k1, rfl⟩ := h1.form
  obtain ⟨p2, k2, rfl⟩ := h2.form
  obtain ⟨p3, k3, rfl⟩ := h3.form
  obtain ⟨p4, k4, rfl⟩ := h4.form
  obtain ⟨cs, rfl, hq0⟩ := hu
  have hq := hq0
  obtain ⟨d1, d2, d4, rfl, s1, s2, s4⟩ := hq
  obtain ⟨q1, m1, bs, os, rfl, _, _, hp1, hc1, _⟩ := s1.rows
  obtain ⟨q2, m2, rfl⟩ := s2.form
  obtain ⟨q4, m4, rfl⟩ := s4.form
  have hbv := bounds_valid hok
  obtain ⟨z, hz⟩ : ∃ z : Nat, sizeL h.sectors = z := ⟨(sizeL h.sectors).toNat, by omega⟩
  have hz100 : z ≤ 100 := by omega
  have hz0 : 0 < z := by have := size_pos hok; omega
  obtain ⟨pu, cu, bu, ou, rfl, _, hlm, hpu, hcu, hbu⟩ := hx.ints
  obtain ⟨W3, hW3⟩ : ∃ W3, W3 = (((w.alloc (.cells #[.slice p0 h.sectors.length k0, .slice p1 h.prices.length k1, .slice p2 h.dates.length k2, .slice p3 h.frm.length k3, .slice p4 h.holds.length k4] 26)).alloc (.cells #[.int .i64 b.agency, .slice q1 b.seats.length m1, .slice q2 b.off.length m2, .int .i64 b.sent, .slice q4 b.took.length m4, .int .i64 b.cash] 30)).alloc (.cells #[.int .i64 0, .slice none 0 0, .slice none 0 0, .int .i64 0, .slice none 0 0, .int .i64 0] 30)).alloc (.cells #[.int .i64 0, .int .i64 0, .int .i64 0, .int .i64 0, .slice none 0 0] 73) := ⟨_, rfl⟩
  have hbx : Bx W3 w.heap.size [.slice p0 h.sectors.length k0, .slice p1 h.prices.length k1, .slice p2 h.dates.length k2, .slice p3 h.frm.length k3, .slice p4 h.holds.length k4] 26 := by subst hW3; exact (((Bx.new _ _ _).alloc _).alloc _).alloc _
  have hb2 : Bx W3 (w.heap.size + 1) [.int .i64 b.agency, .slice q1 b.seats.length m1, .slice q2 b.off.length m2, .int .i64 b.sent, .slice q4 b.took.length m4, .int .i64 b.cash] 30 := by subst hW3; exact ((Bx.new' _ _ _ _ (by simp)).alloc _).alloc _
  have hb3 : Bx W3 (w.heap.size + 2) [.int .i64 0, .slice none 0 0, .slice none 0 0, .int .i64 0, .slice none 0 0, .int .i64 0] 30 := by subst hW3; exact (Bx.new' _ _ _ _ (by simp)).alloc _
  have hb4 : Bx W3 (w.heap.size + 3) [.int .i64 0, .int .i64 0, .int .i64 0, .int .i64 0, .slice none 0 0] 73 := by subst hW3; exact Bx.new' _ [_, _, _, _, _] _ _ (by simp)
  have hS : Step w W3 := by subst hW3; exact (by repeat (first | (with_reducible assumption) | (with_reducible exact Step.refl _) | (with_reducible apply Step.s_alloc) | (with_reducible apply Step.s_drew) | (with_reducible apply Step.s_drewN) | (with_reducible refine Step.trans ?_ (by with_reducible assumption))))
  have hz3 : W3.heap.size = w.heap.size + 4 := by subst hW3; simp
  have HO := Lib.hid hO
  have HC0 := Lib.hid (And.intro hc0 hcash)
  have HTH := Lib.hid hthin
  have HB1 := Lib.hid hbx
  have HB2 := Lib.hid hb2
  have HB3 := Lib.hid hb3
  have HB4 := Lib.hid hb4
  have HXS := Lib.hid (hx.keep (.of_step hS))
  have HU := Lib.hid (And.intro hpu hcu)
  have HR := Lib.hid (Rep.keep (.of_step hS) hr0)
  have HQ := Lib.hid (Rep.keep (.of_step hS) hq0)
  have HSHOW := Lib.hid (And.intro h2 (And.intro h3 s2))
  have HS := Lib.hid hS
  have HZ3 := Lib.hid hz3
  have HZ := Lib.hid hz
  have HP1 := Lib.hid (And.intro hp1 hc1)
  have HOK := Lib.hid hok
  have HBK := Lib.hid hbk
  have HBV := Lib.hid hbv
  have hn1 : 1 ≤ h.dates.length ∧ h.dates.length ≤ 6 := by omega
  have HT := Lib.hid (Step.refl W3)
  have HW := Lib.hid hW3
  clear hx hpu hcu hbu hb4 hr0 hq0 h0 h1 h2 h3 h4 s1 s2 s4 hbx hb2 hb3 hS hz3 hz hp1 hc1 hok hbk hbv hW3 hO hcash hc0 hthin
  have hwa : IntKind.i64.wrap ((agN h : Int) - 1) = (agN h : Int) - 1 := by rw [IntKind.wrap_i64]; have := HBV.out; omega
  have hwd : IntKind.i64.wrap ((h.dates.length : Int) - 1) = (h.dates.length : Int) - 1 := by rw [IntKind.wrap_i64]; omega
  have hf0 : 0 < h.frm.length := by have := HBV.out; omega
  have hh0 : 0 < h.holds.length := by have := HBV.out; omega
  have hh1 : (0 : Int) < (h.holds.length : Int) := by omega
  obtain ⟨pq4, kq4, b4, o4, eh4, _, _, hp4, hc4, _⟩ := (rep5 HR.out).2.2.2.2.rows
  injection eh4 with ea eb ec
  subst ea ec
  clear eb
  obtain rfl := hp4 hh0
  obtain ⟨uz, gz, huz⟩ := hc4 0 hh0
  obtain ⟨pz, kz, rfl⟩ := huz.form
  simp only [Nat.add_zero] at gz
  have hlz : h.holds[0].length = z := by have := HBV.out.2.2.2.2.2.2.2.2.1 0 hh0; have := HZ.out; omega
  rw [hlz] at gz
  have HGZ := Lib.hid gz
  clear gz huz hlz hc4 hp4
  have hcall := Lib.hid (Agencies_any S h _ _ ⟨_, rfl, HR.out⟩ hf0)
  go_enter Try.func40, Try.ntmps40
  go_wp2_with fail
  rw [show w.heap.size + 1 + 1 = w.heap.size + 2 from rfl, show w.heap.size + 2 + 1 = w.heap.size + 3 from rfl, ← HW.out]
  refine hcall.out.mono ?_
  rintro e wn ⟨rfl, hSn⟩
  clear hcall
  have HTi := Lib.hid (HT.out.trans hSn)
  clear hSn HT
  have HT := HTi
  clear HTi
  go_wp2_with fail
  refine (In_st _ _ _ _).mono ?_
  rintro e wn2 ⟨rfl, hSn⟩
  have HTi := Lib.hid (HT.out.trans hSn)
  clear hSn HT
  have HT := HTi
  clear HTi
  cases q1 : withinB t 0 ((agN h : Int) - 1) with
  | false =>
    have HF := Lib.hid (show giveE h b t s l = 2 by simp [giveE, q1])
    clear q1
    (try clear e0 e1 e2 e3 e4 f0 f1 f2 f3 f4 f5)
    obtain ⟨e0, e1, e2, e3, e4⟩ := cells5 (HB1.out.step HT.out)
    obtain ⟨f0, f1, f2, f3, f4, f5⟩ := cells6 (HB2.out.step HT.out)
    obtain ⟨g0, g1, g2, g3, g4, g5⟩ := cells6 (HB3.out.step HT.out)
    have t0 := (HB3.out.step HT.out).frozen 0
    have t1 := (HB3.out.step HT.out).frozen 1
    have t2 := (HB3.out.step HT.out).frozen 2
    have t3 := (HB3.out.step HT.out).frozen 3
    have t4 := (HB3.out.step HT.out).frozen 4
    have t5 := (HB3.out.step HT.out).frozen 5
    obtain ⟨n0, n1, n2, n3, n4⟩ := cells5 (HB4.out.step HT.out)
    have l0 := (HB4.out.step HT.out).frozen 0
    have l1 := (HB4.out.step HT.out).frozen 1
    have l2 := (HB4.out.step HT.out).frozen 2
    have l3 := (HB4.out.step HT.out).frozen 3
    have l4 := (HB4.out.step HT.out).frozen 4
    go_wp2
    have b6 := set6 (HB3.out.step HT.out) (.int .i64 0) (.slice none 0 0) (.slice none 0 0) (.int .i64 0) (.slice none 0 0) (.int .i64 0)
    have b5 := set5 ((HB4.out.step HT.out).keep b6.2.keeps (by omega)) (.int .i64 0) (.int .i64 0) (.int .i64 0) (.int .i64 0) (.slice none 0 0)
    exact ret_struct_cc (k := 6) (k' := 5) rfl siRefBook siRefMessage rfl rfl (b6.1.keep b5.2.keeps (by omega)) b5.1 rfl rfl rfl (.no (giveD_no HF.out (by simp)) rfl (StepX.fresh (StepX.fresh (HS.out.trans HT.out) b6.2 (fun j hj => by omega)) b5.2 (fun j hj => by omega)))
  | true =>
  have Q1 := Lib.hid q1
  clear q1
  (try clear e0 e1 e2 e3 e4 f0 f1 f2 f3 f4 f5)
  obtain ⟨e0, e1, e2, e3, e4⟩ := cells5 (HB1.out.step HT.out)
  obtain ⟨f0, f1, f2, f3, f4, f5⟩ := cells6 (HB2.out.step HT.out)
  by_cases q2 : t = b.agency
  · have hd : (t == b.agency) = true := by simpa using q2
    have HF := Lib.hid (show giveE h b t s l = 2 by simp [giveE, Q1.out, q2])
    clear q2
    (try clear e0 e1 e2 e3 e4 f0 f1 f2 f3 f4 f5)
    obtain ⟨e0, e1, e2, e3, e4⟩ := cells5 (HB1.out.step HT.out)
    obtain ⟨f0, f1, f2, f3, f4, f5⟩ := cells6 (HB2.out.step HT.out)
    obtain ⟨g0, g1, g2, g3, g4, g5⟩ := cells6 (HB3.out.step HT.out)
    have t0 := (HB3.out.step HT.out).frozen 0
    have t1 := (HB3.out.step HT.out).frozen 1
    have t2 := (HB3.out.step HT.out).frozen 2
    have t3 := (HB3.out.step HT.out).frozen 3
    have t4 := (HB3.out.step HT.out).frozen 4
    have t5 := (HB3.out.step HT.out).frozen 5
    obtain ⟨n0, n1, n2, n3, n4⟩ := cells5 (HB4.out.step HT.out)
    have l0 := (HB4.out.step HT.out).frozen 0
    have l1 := (HB4.out.step HT.out).frozen 1
    have l2 := (HB4.out.step HT.out).frozen 2
    have l3 := (HB4.out.step HT.out).frozen 3
    have l4 := (HB4.out.step HT.out).frozen 4
    go_wp2
    have b6 := set6 (HB3.out.step HT.out) (.int .i64 0) (.slice none 0 0) (.slice none 0 0) (.int .i64 0) (.slice none 0 0) (.int .i64 0)
    have b5 := set5 ((HB4.out.step HT.out).keep b6.2.keeps (by omega)) (.int .i64 0) (.int .i64 0) (.int .i64 0) (.int .i64 0) (.slice none 0 0)
    exact ret_struct_cc (k := 6) (k' := 5) rfl siRefBook siRefMessage rfl rfl (b6.1.keep b5.2.keeps (by omega)) b5.1 rfl rfl rfl (.no (giveD_no HF.out (by simp)) rfl (StepX.fresh (StepX.fresh (HS.out.trans HT.out) b6.2 (fun j hj => by omega)) b5.2 (fun j hj => by omega)))
  have hd : (t == b.agency) = false := by simpa using q2
  have Q2 := Lib.hid q2
  clear q2
  go_wp2_with fail
  refine (In_st _ _ _ _).mono ?_
  rintro e wn3 ⟨rfl, hSn⟩
  clear hd
  have HTi := Lib.hid (HT.out.trans hSn)
  clear hSn HT
  have HT := HTi
  clear HTi
  cases q3 : withinB s 0 ((h.dates.length : Int) - 1) with
  | false =>
    have HF := Lib.hid (show giveE h b t s l = 2 by simp [giveE, Q1.out, Q2.out, q3])
    clear q3
    (try clear e0 e1 e2 e3 e4 f0 f1 f2 f3 f4 f5)
    obtain ⟨e0, e1, e2, e3, e4⟩ := cells5 (HB1.out.step HT.out)
    obtain ⟨f0, f1, f2, f3, f4, f5⟩ := cells6 (HB2.out.step HT.out)
    obtain ⟨g0, g1, g2, g3, g4, g5⟩ := cells6 (HB3.out.step HT.out)
    have t0 := (HB3.out.step HT.out).frozen 0
    have t1 := (HB3.out.step HT.out).frozen 1
    have t2 := (HB3.out.step HT.out).frozen 2
    have t3 := (HB3.out.step HT.out).frozen 3
    have t4 := (HB3.out.step HT.out).frozen 4
    have t5 := (HB3.out.step HT.out).frozen 5
    obtain ⟨n0, n1, n2, n3, n4⟩ := cells5 (HB4.out.step HT.out)
    have l0 := (HB4.out.step HT.out).frozen 0
    have l1 := (HB4.out.step HT.out).frozen 1
    have l2 := (HB4.out.step HT.out).frozen 2
    have l3 := (HB4.out.step HT.out).frozen 3
    have l4 := (HB4.out.step HT.out).frozen 4
    go_wp2
    have b6 := set6 (HB3.out.step HT.out) (.int .i64 0) (.slice none 0 0) (.slice none 0 0) (.int .i64 0) (.slice none 0 0) (.int .i64 0)
    have b5 := set5 ((HB4.out.step HT.out).keep b6.2.keeps (by omega)) (.int .i64 0) (.int .i64 0) (.int .i64 0) (.int .i64 0) (.slice none 0 0)
    exact ret_struct_cc (k := 6) (k' := 5) rfl siRefBook siRefMessage rfl rfl (b6.1.keep b5.2.keeps (by omega)) b5.1 rfl rfl rfl (.no (giveD_no HF.out (by simp)) rfl (StepX.fresh (StepX.fresh (HS.out.trans HT.out) b6.2 (fun j hj => by omega)) b5.2 (fun j hj => by omega)))
  | true =>
  have Q3 := Lib.hid q3
  clear q3
  (try clear e0 e1 e2 e3 e4 f0 f1 f2 f3 f4 f5)
  obtain ⟨e0, e1, e2, e3, e4⟩ := cells5 (HB1.out.step HT.out)
  obtain ⟨f0, f1, f2, f3, f4, f5⟩ := cells6 (HB2.out.step HT.out)
  have gz := HT.out.keeps.cell id HGZ.out
  go_wp2_with fail
  clear gz
  refine (rising_any T l z (by omega) _ _ (HXS.out.keep (.of_step HT.out))).mono ?_
  rintro e wn4 ⟨rfl, hSn⟩
  have HTi := Lib.hid (HT.out.trans hSn)
  clear hSn HT
  have HT := HTi
  clear HTi
  cases q4 : risingB l z with
  | false =>
    have HF := Lib.hid (show giveE h b t s l = 2 by simp [giveE, Q1.out, Q2.out, Q3.out, seats_rising, HZ.out, q4])
    clear q4
    (try clear e0 e1 e2 e3 e4 f0 f1 f2 f3 f4 f5)
    obtain ⟨e0, e1, e2, e3, e4⟩ := cells5 (HB1.out.step HT.out)
    obtain ⟨f0, f1, f2, f3, f4, f5⟩ := cells6 (HB2.out.step HT.out)
    obtain ⟨g0, g1, g2, g3, g4, g5⟩ := cells6 (HB3.out.step HT.out)
    have t0 := (HB3.out.step HT.out).frozen 0
    have t1 := (HB3.out.step HT.out).frozen 1
    have t2 := (HB3.out.step HT.out).frozen 2
    have t3 := (HB3.out.step HT.out).frozen 3
    have t4 := (HB3.out.step HT.out).frozen 4
    have t5 := (HB3.out.step HT.out).frozen 5
    obtain ⟨n0, n1, n2, n3, n4⟩ := cells5 (HB4.out.step HT.out)
    have l0 := (HB4.out.step HT.out).frozen 0
    have l1 := (HB4.out.step HT.out).frozen 1
    have l2 := (HB4.out.step HT.out).frozen 2
    have l3 := (HB4.out.step HT.out).frozen 3
    have l4 := (HB4.out.step HT.out).frozen 4
    go_wp2
    have b6 := set6 (HB3.out.step HT.out) (.int .i64 0) (.slice none 0 0) (.slice none 0 0) (.int .i64 0) (.slice none 0 0) (.int .i64 0)
    have b5 := set5 ((HB4.out.step HT.out).keep b6.2.keeps (by omega)) (.int .i64 0) (.int .i64 0) (.int .i64 0) (.int .i64 0) (.slice none 0 0)
    exact ret_struct_cc (k := 6) (k' := 5) rfl siRefBook siRefMessage rfl rfl (b6.1.keep b5.2.keeps (by omega)) b5.1 rfl rfl rfl (.no (giveD_no HF.out (by simp)) rfl (StepX.fresh (StepX.fresh (HS.out.trans HT.out) b6.2 (fun j hj => by omega)) b5.2 (fun j hj => by omega)))
  | true =>
  have Q4 := Lib.hid (show seatsB h l = true by rw [seats_rising, HZ.out]; exact q4)
  clear q4
  have HGE := Lib.hid (giveE_2 Q1.out Q2.out Q3.out Q4.out)
  obtain ⟨i, rfl, hi0, hi1⟩ := within_nat Q3.out (by omega)
  have hi : i < h.dates.length := by omega
  clear hi0 hi1
  have hio : i < b.off.length := by have := HO.out.2.1; omega
  obtain ⟨po, co, bo, oo, eo, _, _, hpo, hco, _⟩ := HSHOW.out.2.2.bools
  injection eo with ea eb ec
  subst ea ec
  clear eb
  obtain rfl := hpo (by omega)
  have hoff : offAt b i = b.off[i] := by simp [offAt, List.getD_eq_getElem?_getD, hio]
  have hx1 : (0 : Int) ≤ (i : Int) ∧ (i : Int) < (b.off.length : Int) := by omega
  have hco := (HS.out.trans HT.out).keeps.cell id (hco i hio)
  rw [← hoff] at hco
  clear hoff hpo
  (try clear e0 e1 e2 e3 e4 f0 f1 f2 f3 f4 f5)
  obtain ⟨e0, e1, e2, e3, e4⟩ := cells5 (HB1.out.step HT.out)
  obtain ⟨f0, f1, f2, f3, f4, f5⟩ := cells6 (HB2.out.step HT.out)
  cases q5 : offAt b i with
  | true =>
    rw [q5] at hco
    have HF := Lib.hid (show giveE h b t i l = 8 by rw [HGE.out, if_pos q5])
    clear q5
    (try clear e0 e1 e2 e3 e4 f0 f1 f2 f3 f4 f5)
    obtain ⟨e0, e1, e2, e3, e4⟩ := cells5 (HB1.out.step HT.out)
    obtain ⟨f0, f1, f2, f3, f4, f5⟩ := cells6 (HB2.out.step HT.out)
    obtain ⟨g0, g1, g2, g3, g4, g5⟩ := cells6 (HB3.out.step HT.out)
    have t0 := (HB3.out.step HT.out).frozen 0
    have t1 := (HB3.out.step HT.out).frozen 1
    have t2 := (HB3.out.step HT.out).frozen 2
    have t3 := (HB3.out.step HT.out).frozen 3
    have t4 := (HB3.out.step HT.out).frozen 4
    have t5 := (HB3.out.step HT.out).frozen 5
    obtain ⟨n0, n1, n2, n3, n4⟩ := cells5 (HB4.out.step HT.out)
    have l0 := (HB4.out.step HT.out).frozen 0
    have l1 := (HB4.out.step HT.out).frozen 1
    have l2 := (HB4.out.step HT.out).frozen 2
    have l3 := (HB4.out.step HT.out).frozen 3
    have l4 := (HB4.out.step HT.out).frozen 4
    go_wp2
    have b6 := set6 (HB3.out.step HT.out) (.int .i64 0) (.slice none 0 0) (.slice none 0 0) (.int .i64 0) (.slice none 0 0) (.int .i64 0)
    have b5 := set5 ((HB4.out.step HT.out).keep b6.2.keeps (by omega)) (.int .i64 0) (.int .i64 0) (.int .i64 0) (.int .i64 0) (.slice none 0 0)
    exact ret_struct_cc (k := 6) (k' := 5) rfl siRefBook siRefMessage rfl rfl (b6.1.keep b5.2.keeps (by omega)) b5.1 rfl rfl rfl (.no (giveD_no HF.out (by simp)) rfl (StepX.fresh (StepX.fresh (HS.out.trans HT.out) b6.2 (fun j hj => by omega)) b5.2 (fun j hj => by omega)))
  | false =>
  rw [q5] at hco
  have Q5 := Lib.hid q5
  clear q5
  have his : i < b.seats.length := by have := HO.out.2.2.1; omega
  have hrl : ∀ b', OkDesk h b' → ∀ s (hs : s < b'.seats.length), b'.seats[s].length = z := fun b' hb s hs => by have := hb.2.2.2.1 s hs; have := HZ.out; omega
  have HRL := Lib.hid hrl
  obtain rfl := HP1.out.1 (by omega)
  obtain ⟨ur, hr1, hr2⟩ := HP1.out.2 i his
  obtain ⟨pr, cr, br, orr, rfl, _, _, hpr, hcr, _⟩ := hr2.ints
  obtain rfl := hpr (by rw [hrl _ HO.out]; exact hz0)
  have hcr2 : ∀ j, j < z → w.cell? ⟨br, orr + j, none⟩ = some (.int .i64 (seatAt b i j)) := fun j hjz => by
    rw [hcr j (by rw [hrl _ HO.out]; exact hjz)]
    simp [seatAt, List.getD_eq_getElem?_getD, his, show j < b.seats[i].length by rw [hrl _ HO.out]; exact hjz]
  have hlow : ∀ j : Nat, j < z → -1 ≤ seatAt b i j := fun j hjz => by
    have h1 := seat_low HBK.out his (show j < b.seats[i].length by rw [hrl _ HO.out]; exact hjz)
    simpa [seatAt, List.getD_eq_getElem?_getD, his, show j < b.seats[i].length by rw [hrl _ HO.out]; exact hjz] using h1
  rw [hrl _ HO.out] at hr1
  have HROW := Lib.hid (And.intro hr1 hcr2)
  have HLOW := Lib.hid hlow
  have hx2 : (0 : Int) ≤ (i : Int) ∧ (i : Int) < (b.seats.length : Int) := by omega
  clear hr1 hr2 hpr hcr hcr2 hrl hlow
  go_wp2_with fail
  clear hco e0 e1 e2 e3 e4 f0 f1 f2 f3 f4 f5
  go_loopw [13] (fun idx wr => ∃ k : Nat, k ≤ l.length ∧ idx = .int .i64 k ∧ ((l.take k).all fun j => decide (seatAt b i j ≠ -1)) = true ∧ Step W3 wr) (fun idx _ => l.length - (intOf idx).toNat)
  case atStart => exact ⟨0, Nat.zero_le _, rfl, by simp, HT.out⟩
  case round =>
    obtain ⟨k, hk, rfl, ha, hT⟩ := hrel
    clear HT
    have HA := Lib.hid ha
    have HT := Lib.hid hT
    clear ha hT
    by_cases hlt : k < l.length
    · obtain ⟨j, hj, hjz⟩ := seats_nat Q4.out hlt
      have HJ := Lib.hid hj
      have hjz2 : j < z := by have := HZ.out; omega
      obtain rfl := HU.out.1 (by omega)
      obtain ⟨y, hy⟩ : ∃ y, y = seatAt b i j := ⟨_, rfl⟩
      have hylow := HLOW.out j hjz2
      rw [← hy] at hylow
      have HY := Lib.hid hy
      have HYL := Lib.hid hylow
      clear hy hylow hj
      have hx3 : (0 : Int) ≤ (k : Int) ∧ (k : Int) < (l.length : Int) := by omega
      have hx4 : (0 : Int) ≤ (j : Int) ∧ (j : Int) < (z : Int) := by omega
      go_upto_region 8 with (fail)
      refine wp_region_seq (kdOf [] []) [0, 1, 0, 7, 15, 0, 0, 96, 224, 511, 1023, 2047] [0, 1, 2, 3, 4, 5, 6, 7, 8, 9, 10, 11] [] (by kernel_rfl) (by kernel_rfl) (fun i T z hi hk => by simp [kdOf] at hk <;> (try (split at hk <;> cases hk))) ?_
      intro Wx hWx
      have HTx := Lib.hid (HT.out.trans hWx)
      clear hWx HT
      have HT := HTx
      clear HTx
      (try clear e0 e1 e2 e3 e4 f0 f1 f2 f3 f4 f5)
      obtain ⟨e0, e1, e2, e3, e4⟩ := cells5 (HB1.out.step HT.out)
      obtain ⟨f0, f1, f2, f3, f4, f5⟩ := cells6 (HB2.out.step HT.out)
      have ll0 := (HS.out.trans HT.out).keeps.cell id (HU.out.2 k hlt)
      rw [HJ.out] at ll0
      have r1 := (HS.out.trans HT.out).keeps.cell id HROW.out.1
      have r2 := (HS.out.trans HT.out).keeps.cell id (HROW.out.2 j hjz2)
      rw [← HY.out] at r2
      by_cases q6 : y < 0
      · have hd : decide (y < 0) = true := by simpa using q6
        have HF := Lib.hid (show giveE h b t i l = 7 by
          rw [HGE.out, if_neg (by rw [Q5.out]; simp), if_pos ?_]
          rw [List.all_eq_false]
          exact ⟨l[k], List.getElem_mem hlt, by rw [HJ.out, ← HY.out]; have := HYL.out; simp; omega⟩)
        repeat (first | (refine run_off rfl rfl (by rfl) ?_; (try simp only [Act.put, List.setIfInBounds_toArray, List.set_cons_zero, List.set_cons_succ])) | (refine run_chain_off rfl rfl (by rfl) (K0_mono _) ?_; (try simp only [Act.put, List.setIfInBounds_toArray, List.set_cons_zero, List.set_cons_succ])) | ((refine run_want rfl rfl (by rfl) ⟨?_, fun W hW => ?_, ?_⟩; rotate_left; (· (have d0 := hW.keeps.cell id f1; have d1 := hW.keeps.cell id ll0; have d2 := hW.keeps.cell id r1; have d3 := hW.keeps.cell id r2; go_simp; (try with_reducible rfl)))); (try simp only [Act.put, List.setIfInBounds_toArray, List.set_cons_zero, List.set_cons_succ])))
        refine run_end (L := []) rfl (fun W6 hW6 => ?_)
        have HT6 := Lib.hid (HT.out.trans hW6)
        clear hW6 HT
        have HT := HT6
        clear HT6
        clear q6 ll0 r1 r2
        (try clear e0 e1 e2 e3 e4 f0 f1 f2 f3 f4 f5)
        obtain ⟨e0, e1, e2, e3, e4⟩ := cells5 (HB1.out.step HT.out)
        obtain ⟨f0, f1, f2, f3, f4, f5⟩ := cells6 (HB2.out.step HT.out)
        obtain ⟨g0, g1, g2, g3, g4, g5⟩ := cells6 (HB3.out.step HT.out)
        have t0 := (HB3.out.step HT.out).frozen 0
        have t1 := (HB3.out.step HT.out).frozen 1
        have t2 := (HB3.out.step HT.out).frozen 2
        have t3 := (HB3.out.step HT.out).frozen 3
        have t4 := (HB3.out.step HT.out).frozen 4
        have t5 := (HB3.out.step HT.out).frozen 5
        obtain ⟨n0, n1, n2, n3, n4⟩ := cells5 (HB4.out.step HT.out)
        have l0 := (HB4.out.step HT.out).frozen 0
        have l1 := (HB4.out.step HT.out).frozen 1
        have l2 := (HB4.out.step HT.out).frozen 2
        have l3 := (HB4.out.step HT.out).frozen 3
        have l4 := (HB4.out.step HT.out).frozen 4
        go_wp2
        have b6 := set6 (HB3.out.step HT.out) (.int .i64 0) (.slice none 0 0) (.slice none 0 0) (.int .i64 0) (.slice none 0 0) (.int .i64 0)
        have b5 := set5 ((HB4.out.step HT.out).keep b6.2.keeps (by omega)) (.int .i64 0) (.int .i64 0) (.int .i64 0) (.int .i64 0) (.slice none 0 0)
        exact ret_struct_cc (k := 6) (k' := 5) rfl siRefBook siRefMessage rfl rfl (b6.1.keep b5.2.keeps (by omega)) b5.1 rfl rfl rfl (.no (giveD_no HF.out (by simp)) rfl (StepX.fresh (StepX.fresh (HS.out.trans HT.out) b6.2 (fun j hj => by omega)) b5.2 (fun j hj => by omega)))
      · have hd : decide (y < 0) = false := by simp; omega
        have HQ := Lib.hid (show decide (seatAt b i l[k] ≠ -1) = true by rw [HJ.out, ← HY.out]; simp; omega)
        repeat (first | (refine run_off rfl rfl (by rfl) ?_; (try simp only [Act.put, List.setIfInBounds_toArray, List.set_cons_zero, List.set_cons_succ])) | (refine run_chain_off rfl rfl (by rfl) (K0_mono _) ?_; (try simp only [Act.put, List.setIfInBounds_toArray, List.set_cons_zero, List.set_cons_succ])) | ((refine run_want rfl rfl (by rfl) ⟨?_, fun W hW => ?_, ?_⟩; rotate_left; (· (have d0 := hW.keeps.cell id f1; have d1 := hW.keeps.cell id ll0; have d2 := hW.keeps.cell id r1; have d3 := hW.keeps.cell id r2; go_simp; (try with_reducible rfl)))); (try simp only [Act.put, List.setIfInBounds_toArray, List.set_cons_zero, List.set_cons_succ])))
        refine run_end (L := []) rfl (fun W6 hW6 => ?_)
        have HT6 := Lib.hid (HT.out.trans hW6)
        clear hW6 HT
        have HT := HT6
        clear HT6
        clear q6 ll0 r1 r2
        go_wp2
        go_roundw
        case rel => exact ⟨k + 1, by omega, by go_num, all_take (p := fun j => decide (seatAt b i j ≠ -1)) HA.out hlt HQ.out, HT.out⟩
        case measure => simp [intOf]; omega
    · have Q6 := Lib.hid (show (l.all fun j => decide (seatAt b i j ≠ -1)) = true by have := HA.out; rwa [List.take_of_length_le (by omega)] at this)
      clear HA
      go_wp2_with fail
      obtain ⟨wo, hwo⟩ : ∃ W, W = wr := ⟨_, rfl⟩
      subst hwo
      go_loopw [14] (fun idx wr => ∃ k : Nat, k ≤ l.length ∧ idx = .int .i64 k ∧ ((l.take k).all fun j => !decide (0 < seatAt b i j)) = true ∧ Step W3 wr) (fun idx _ => l.length - (intOf idx).toNat)
      case atStart => exact ⟨0, Nat.zero_le _, rfl, by simp, HT.out⟩
      case round =>
        obtain ⟨k, hk, rfl, ha, hT⟩ := hrel
        clear HT
        have HA := Lib.hid ha
        have HT := Lib.hid hT
        clear ha hT
        by_cases hlt : k < l.length
        · obtain ⟨j, hj, hjz⟩ := seats_nat Q4.out hlt
          have HJ := Lib.hid hj
          have hjz2 : j < z := by have := HZ.out; omega
          obtain rfl := HU.out.1 (by omega)
          obtain ⟨y, hy⟩ : ∃ y, y = seatAt b i j := ⟨_, rfl⟩
          have HY := Lib.hid hy
          clear hy hj
          have hx3 : (0 : Int) ≤ (k : Int) ∧ (k : Int) < (l.length : Int) := by omega
          have hx4 : (0 : Int) ≤ (j : Int) ∧ (j : Int) < (z : Int) := by omega
          go_upto_region 13 with (fail)
          refine wp_region_seq (kdOf [] []) [0, 1, 0, 7, 15, 0, 0, 96, 224, 511, 1023, 2047] [0, 1, 2, 3, 4, 5, 6, 7, 8, 9, 10, 11] [] (by kernel_rfl) (by kernel_rfl) (fun i T z hi hk => by simp [kdOf] at hk <;> (try (split at hk <;> cases hk))) ?_
          intro Wx hWx
          have HTx := Lib.hid (HT.out.trans hWx)
          clear hWx HT
          have HT := HTx
          clear HTx
          (try clear e0 e1 e2 e3 e4 f0 f1 f2 f3 f4 f5)
          obtain ⟨e0, e1, e2, e3, e4⟩ := cells5 (HB1.out.step HT.out)
          obtain ⟨f0, f1, f2, f3, f4, f5⟩ := cells6 (HB2.out.step HT.out)
          have ll0 := (HS.out.trans HT.out).keeps.cell id (HU.out.2 k hlt)
          rw [HJ.out] at ll0
          have r1 := (HS.out.trans HT.out).keeps.cell id HROW.out.1
          have r2 := (HS.out.trans HT.out).keeps.cell id (HROW.out.2 j hjz2)
          rw [← HY.out] at r2
          by_cases q7 : 0 < y
          · have hd : decide (0 < y) = true := by simpa using q7
            have HF := Lib.hid (show giveE h b t i l = 6 by
              rw [HGE.out, if_neg (by rw [Q5.out]; simp), if_neg (by rw [Q6.out]; simp), if_pos ?_]
              rw [List.all_eq_false]
              exact ⟨l[k], List.getElem_mem hlt, by rw [HJ.out, ← HY.out]; simp; omega⟩)
            repeat (first | (refine run_off rfl rfl (by rfl) ?_; (try simp only [Act.put, List.setIfInBounds_toArray, List.set_cons_zero, List.set_cons_succ])) | (refine run_chain_off rfl rfl (by rfl) (K0_mono _) ?_; (try simp only [Act.put, List.setIfInBounds_toArray, List.set_cons_zero, List.set_cons_succ])) | ((refine run_want rfl rfl (by rfl) ⟨?_, fun W hW => ?_, ?_⟩; rotate_left; (· (have d0 := hW.keeps.cell id f1; have d1 := hW.keeps.cell id ll0; have d2 := hW.keeps.cell id r1; have d3 := hW.keeps.cell id r2; go_simp; (try with_reducible rfl)))); (try simp only [Act.put, List.setIfInBounds_toArray, List.set_cons_zero, List.set_cons_succ])))
            refine run_end (L := []) rfl (fun W6 hW6 => ?_)
            have HT6 := Lib.hid (HT.out.trans hW6)
            clear hW6 HT
            have HT := HT6
            clear HT6
            clear q7 ll0 r1 r2
            (try clear e0 e1 e2 e3 e4 f0 f1 f2 f3 f4 f5)
            obtain ⟨e0, e1, e2, e3, e4⟩ := cells5 (HB1.out.step HT.out)
            obtain ⟨f0, f1, f2, f3, f4, f5⟩ := cells6 (HB2.out.step HT.out)
            obtain ⟨g0, g1, g2, g3, g4, g5⟩ := cells6 (HB3.out.step HT.out)
            have t0 := (HB3.out.step HT.out).frozen 0
            have t1 := (HB3.out.step HT.out).frozen 1
            have t2 := (HB3.out.step HT.out).frozen 2
            have t3 := (HB3.out.step HT.out).frozen 3
            have t4 := (HB3.out.step HT.out).frozen 4
            have t5 := (HB3.out.step HT.out).frozen 5
            obtain ⟨n0, n1, n2, n3, n4⟩ := cells5 (HB4.out.step HT.out)
            have l0 := (HB4.out.step HT.out).frozen 0
            have l1 := (HB4.out.step HT.out).frozen 1
            have l2 := (HB4.out.step HT.out).frozen 2
            have l3 := (HB4.out.step HT.out).frozen 3
            have l4 := (HB4.out.step HT.out).frozen 4
            go_wp2
            have b6 := set6 (HB3.out.step HT.out) (.int .i64 0) (.slice none 0 0) (.slice none 0 0) (.int .i64 0) (.slice none 0 0) (.int .i64 0)
            have b5 := set5 ((HB4.out.step HT.out).keep b6.2.keeps (by omega)) (.int .i64 0) (.int .i64 0) (.int .i64 0) (.int .i64 0) (.slice none 0 0)
            exact ret_struct_cc (k := 6) (k' := 5) rfl siRefBook siRefMessage rfl rfl (b6.1.keep b5.2.keeps (by omega)) b5.1 rfl rfl rfl (.no (giveD_no HF.out (by simp)) rfl (StepX.fresh (StepX.fresh (HS.out.trans HT.out) b6.2 (fun j hj => by omega)) b5.2 (fun j hj => by omega)))
          · have hd : decide (0 < y) = false := by simp; omega
            have HQ := Lib.hid (show (!decide (0 < seatAt b i l[k])) = true by rw [HJ.out, ← HY.out]; simp; omega)
            repeat (first | (refine run_off rfl rfl (by rfl) ?_; (try simp only [Act.put, List.setIfInBounds_toArray, List.set_cons_zero, List.set_cons_succ])) | (refine run_chain_off rfl rfl (by rfl) (K0_mono _) ?_; (try simp only [Act.put, List.setIfInBounds_toArray, List.set_cons_zero, List.set_cons_succ])) | ((refine run_want rfl rfl (by rfl) ⟨?_, fun W hW => ?_, ?_⟩; rotate_left; (· (have d0 := hW.keeps.cell id f1; have d1 := hW.keeps.cell id ll0; have d2 := hW.keeps.cell id r1; have d3 := hW.keeps.cell id r2; go_simp; (try with_reducible rfl)))); (try simp only [Act.put, List.setIfInBounds_toArray, List.set_cons_zero, List.set_cons_succ])))
            refine run_end (L := []) rfl (fun W6 hW6 => ?_)
            have HT6 := Lib.hid (HT.out.trans hW6)
            clear hW6 HT
            have HT := HT6
            clear HT6
            clear q7 ll0 r1 r2
            go_wp2
            go_roundw
            case rel => exact ⟨k + 1, by omega, by go_num, all_take (p := fun j => !decide (0 < seatAt b i j)) HA.out hlt HQ.out, HT.out⟩
            case measure => simp [intOf]; omega
        · have Q7 := Lib.hid (show (l.all fun j => !decide (0 < seatAt b i j)) = true by have := HA.out; rwa [List.take_of_length_le (by omega)] at this)
          clear HA
          (try clear e0 e1 e2 e3 e4 f0 f1 f2 f3 f4 f5)
          obtain ⟨e0, e1, e2, e3, e4⟩ := cells5 (HB1.out.step HT.out)
          obtain ⟨f0, f1, f2, f3, f4, f5⟩ := cells6 (HB2.out.step HT.out)
          by_cases q8 : b.sent < 1000
          rotate_left
          · have HF := Lib.hid (show giveE h b t i l = 3 by rw [HGE.out, if_neg (by rw [Q5.out]; simp), if_neg (by rw [Q6.out]; simp), if_neg (by rw [Q7.out]; simp), if_pos (by omega)])
            have hd : decide ((1000 : Int) ≤ b.sent) = true := by simp; omega
            clear q8
            (try clear e0 e1 e2 e3 e4 f0 f1 f2 f3 f4 f5)
            obtain ⟨e0, e1, e2, e3, e4⟩ := cells5 (HB1.out.step HT.out)
            obtain ⟨f0, f1, f2, f3, f4, f5⟩ := cells6 (HB2.out.step HT.out)
            obtain ⟨g0, g1, g2, g3, g4, g5⟩ := cells6 (HB3.out.step HT.out)
            have t0 := (HB3.out.step HT.out).frozen 0
            have t1 := (HB3.out.step HT.out).frozen 1
            have t2 := (HB3.out.step HT.out).frozen 2
            have t3 := (HB3.out.step HT.out).frozen 3
            have t4 := (HB3.out.step HT.out).frozen 4
            have t5 := (HB3.out.step HT.out).frozen 5
            obtain ⟨n0, n1, n2, n3, n4⟩ := cells5 (HB4.out.step HT.out)
            have l0 := (HB4.out.step HT.out).frozen 0
            have l1 := (HB4.out.step HT.out).frozen 1
            have l2 := (HB4.out.step HT.out).frozen 2
            have l3 := (HB4.out.step HT.out).frozen 3
            have l4 := (HB4.out.step HT.out).frozen 4
            go_wp2
            have b6 := set6 (HB3.out.step HT.out) (.int .i64 0) (.slice none 0 0) (.slice none 0 0) (.int .i64 0) (.slice none 0 0) (.int .i64 0)
            have b5 := set5 ((HB4.out.step HT.out).keep b6.2.keeps (by omega)) (.int .i64 0) (.int .i64 0) (.int .i64 0) (.int .i64 0) (.slice none 0 0)
            exact ret_struct_cc (k := 6) (k' := 5) rfl siRefBook siRefMessage rfl rfl (b6.1.keep b5.2.keeps (by omega)) b5.1 rfl rfl rfl (.no (giveD_no HF.out (by simp)) rfl (StepX.fresh (StepX.fresh (HS.out.trans HT.out) b6.2 (fun j hj => by omega)) b5.2 (fun j hj => by omega)))
          have HF := Lib.hid (show giveE h b t i l = 0 by rw [HGE.out, if_neg (by rw [Q5.out]; simp), if_neg (by rw [Q6.out]; simp), if_neg (by rw [Q7.out]; simp), if_neg (by omega)])
          have hd : decide ((1000 : Int) ≤ b.sent) = false := by simp; omega
          have Q8 := Lib.hid q8
          clear q8
          go_wp2_with fail
          refine (Copy_any S b _ _ ⟨_, rfl, Rep.keep (.of_step HT.out) HQ.out⟩ HTH.out).mono ?_
          rintro e wd ⟨vs, vo, vt, xs, rfl, hD0, hSd⟩
          obtain ⟨⟨pvs, cvs, rfl⟩, ⟨pvo, cvo, rfl⟩, ⟨pvt, cvt, rfl⟩⟩ := hD0.form
          have hTd := HT.out.trans hSd
          have hbase : w.heap.size + 4 ≤ wd.heap.size := by have := hTd.size; have := HZ3.out; omega
          have hbase2 : w.heap.size + 4 ≤ wr.heap.size := by have := HT.out.size; have := HZ3.out; omega
          clear hd e0 e1 e2 e3 e4 f0 f1 f2 f3 f4 f5
          have hbD := Bx.new wd [.int .i64 b.agency, .slice pvs b.seats.length cvs, .slice pvo b.off.length cvo, .int .i64 b.sent, .slice pvt b.took.length cvt, .int .i64 b.cash] 30
          have hsA := Step.alloc wd (.cells #[.int .i64 b.agency, .slice pvs b.seats.length cvs, .slice pvo b.off.length cvo, .int .i64 b.sent, .slice pvt b.took.length cvt, .int .i64 b.cash] 30)
          have hD1 := (hD0.step hsA).desk (b2 := w.heap.size + 4) hbase2 hbase hbD
          have hT1 := hTd.trans hsA
          obtain ⟨⟨gs, cs, hvs⟩, hforms⟩ := hD1.forms HO.out HZ.out hz0
          injection hvs with hvs1 hvs2 hvs3
          subst hvs1 hvs3
          clear hvs2
          obtain ⟨hxi, gi, ci, hxv⟩ := hforms i hi
          have HXV := Lib.hid hxv
          have HT1 := Lib.hid hT1
          have HD1 := Lib.hid hD1
          clear hforms hxv hbD hsA hTd hSd hD0 hbase hbase2 hT1 hD1
          go_wp2_with fail
          have HT := HT1
          generalize wd.alloc (.cells #[.int .i64 b.agency, .slice (some ⟨gs, 0, none⟩) b.seats.length cvs, .slice pvo b.off.length cvo, .int .i64 b.sent, .slice pvt b.took.length cvt, .int .i64 b.cash] 30) = w2 at *
          generalize wd.heap.size = gb at *
          go_loopw [16] (fun idx wr => ∃ k : Nat, k ≤ l.length ∧ idx = .int .i64 k ∧ Desk6 (w.heap.size + 4) wr gb (giveTo b i (l.take k)) (.slice (some ⟨gs, 0, none⟩) b.seats.length cvs) (.slice pvo b.off.length cvo) (.slice pvt b.took.length cvt) xs ∧ Step W3 wr) (fun idx _ => l.length - (intOf idx).toNat)
          case atStart => exact ⟨0, Nat.zero_le _, rfl, HD1.out, HT1.out⟩
          case round =>
            obtain ⟨k, hk, rfl, hDk, hT⟩ := hrel
            clear HT
            have HT := Lib.hid hT
            have hOk := (like_give b i (l.take k)).ok HO.out (by have := HO.out.2.2.2.2.2.2.1; omega)
            have HDK := Lib.hid hDk
            have HOKK := Lib.hid hOk
            clear hDk hT hOk
            by_cases hlt : k < l.length
            · obtain ⟨j, hj, hjz⟩ := seats_nat Q4.out hlt
              have HJ := Lib.hid hj
              have hjz2 : j < z := by have := HZ.out; omega
              obtain rfl := HU.out.1 (by omega)
              have hisk : i < (giveTo b i (l.take k)).seats.length := by have := HOKK.out.2.2.1; omega
              have hjk : j < (giveTo b i (l.take k)).seats[i].length := by rw [HRL.out _ HOKK.out]; exact hjz2
              obtain ⟨m0, m1, z1, _, hgir⟩ := HDK.out.seat_c hisk hxi HXV.out hjk
              have HM := Lib.hid (And.intro m0 z1)
              have hx3 : (0 : Int) ≤ (k : Int) ∧ (k : Int) < (l.length : Int) := by omega
              have hx4 : (0 : Int) ≤ (j : Int) ∧ (j : Int) < (z : Int) := by omega
              clear hj m0 m1 z1
              go_upto_region 21 with (fail)
              refine wp_region_seq (kdOf [] []) [0, 1, 0, 7, 15, 0, 0, 96, 224, 511, 1023] [0, 1, 2, 3, 4, 5, 6, 7, 8, 9] [10] (by kernel_rfl) (by kernel_rfl) (fun i T z hi hk => by simp [kdOf] at hk <;> (try (split at hk <;> cases hk))) ?_
              intro Wx hWx
              have HSX := Lib.hid hWx
              have HTW := HT
              have HTx := Lib.hid (HT.out.trans hWx)
              clear hWx HT
              have HT := HTx
              clear HTx
              obtain ⟨_, y1, _, _, _, _⟩ := cells6 (HDK.out.step HSX.out).bx
              have ll0 := (HS.out.trans HT.out).keeps.cell id (HU.out.2 k hlt)
              rw [HJ.out] at ll0
              have m0 := HSX.out.keeps.cell id HM.out.1
              have HT := HSX
              repeat (first | (refine run_off rfl rfl (by rfl) ?_; (try simp only [Act.put, List.setIfInBounds_toArray, List.set_cons_zero, List.set_cons_succ])) | (refine run_chain_off rfl rfl (by rfl) (K0_mono _) ?_; (try simp only [Act.put, List.setIfInBounds_toArray, List.set_cons_zero, List.set_cons_succ])) | ((refine run_want rfl rfl (by rfl) ⟨?_, fun W hW => ?_, ?_⟩; rotate_left; (· (have d0 := hW.keeps.cell id y1; have d1 := hW.keeps.cell id ll0; have d2 := hW.keeps.cell id m0; go_simp; (try with_reducible rfl)))); (try simp only [Act.put, List.setIfInBounds_toArray, List.set_cons_zero, List.set_cons_succ])))
              refine run_end (L := [_]) rfl (fun W6 hW6 => ?_)
              have HT6 := Lib.hid (HT.out.trans hW6)
              clear hW6 HT
              have HT := HT6
              clear HT6
              have hD6 := HDK.out.step HT.out
              obtain ⟨_, m1, z1, _, _⟩ := hD6.seat_c hisk hxi HXV.out hjk
              have hset := hD6.setSeat (j := j) hisk hxi (by rw [HRL.out _ HOKK.out]; exact HXV.out) (-1)
              have H7 := Lib.hid (And.intro hset.1 (Step.setNew (HTW.out.trans HT.out) ⟨gi, j, none⟩ (.int .i64 (-1)) (by have := hset.2; have := HZ3.out; show W3.heap.size ≤ gi; omega)))
              have HN := Lib.hid (show giveTo b i (l.take (k + 1)) = putSeat (giveTo b i (l.take k)) i j (-1) by rw [List.take_succ_eq_append_getElem hlt, giveTo_snoc, HJ.out, Int.toNat_natCast])
              clear y1 ll0 m0 hD6 hset
              go_wp2
              go_roundw
              case rel => exact ⟨k + 1, by omega, by go_num, by rw [HN.out]; exact H7.out⟩
              case measure => simp [intOf]; omega
            · have htk : giveTo b i (l.take k) = giveTo b i l := by rw [List.take_of_length_le (by omega)]
              rw [htk] at HDK HOKK
              have hsent : (giveTo b i l).sent = b.sent := (like_give b i l).sent
              have hag : (giveTo b i l).agency = b.agency := (like_give b i l).agency
              have HFIN := Lib.hid (show giveD h b t i l = .ok ({ giveTo b i l with sent := b.sent + 1 }, { frm := b.agency, dst := t, number := b.sent + 1, shw := i, seats := l }) by
                unfold giveD; rw [HF.out, if_pos rfl]; simp [giveP])
              clear htk HF
              obtain ⟨y0, y1, y2, y3, y4, y5⟩ := cells6 HDK.out.bx
              have z3 := HDK.out.bx.frozen 3
              rw [hsent] at y3
              have hs0 := HO.out.2.2.2.2.2.2.2.2.1
              have hs1 := Q8.out
              have hws : IntKind.i64.wrap (b.sent + 1) = b.sent + 1 := by rw [IntKind.wrap_i64]; omega
              go_upto_region 23 with (fail)
              have hD3 := HDK.out.setSent (b.sent + 1)
              have hT3 := HT.out.setNew ⟨gb, 3, none⟩ (.int .i64 (b.sent + 1)) (by have := HDK.out.gb; have := HZ3.out; show W3.heap.size ≤ gb; omega)
              have HD3 := Lib.hid hD3
              have HT3 := Lib.hid hT3
              have HAG := Lib.hid hag
              clear HT y0 y1 y2 y3 y4 y5 z3 hs0 hs1 hws hD3 hT3 hsent hag
              generalize wr.setCell ⟨gb, 3, none⟩ (.int .i64 (b.sent + 1)) = w3 at *
              have hng : ¬ (gb = w.heap.size + 2) := by have := HD3.out.gb; omega
              have hnf : ¬ (w.heap.size + 1 = w.heap.size + 2) := by omega
              refine Late.wp_region_late (fun j => j = w.heap.size + 2) (fun c d v a w h => by cases d <;> exact h) (kdOf [8] []) [0, 0, 2, 0, 0, 16, 0, 0, 128, 510, 385, 2047, 4095] [0, 1, 2, 3, 4, 5, 6, 7, 8, 9] 10 [11, 12] (by kernel_rfl) (by kernel_rfl) (fun i T z hi hk => by simp [kdOf] at hk <;> (try (split at hk <;> cases hk))) ?_
              intro Wx hWx
              have HSX := Lib.hid hWx
              have HT := Lib.hid (HT3.out.trans hWx)
              clear hWx
              obtain ⟨y0, y1, y2, y3, y4, y5⟩ := cells6 (HD3.out.step HSX.out).bx
              dsimp only at y0 y3 y5
              (try clear e0 e1 e2 e3 e4 f0 f1 f2 f3 f4 f5)
              obtain ⟨e0, e1, e2, e3, e4⟩ := cells5 (HB1.out.step HT.out)
              obtain ⟨f0, f1, f2, f3, f4, f5⟩ := cells6 (HB2.out.step HT.out)
              repeat (first | (refine Late.run_off rfl rfl (by rfl) ?_; (try simp only [Act.put, List.setIfInBounds_toArray, List.set_cons_zero, List.set_cons_succ])) | ((refine Late.run_want rfl rfl (by rfl) ⟨?_, fun W hW => ?_, ?_⟩; rotate_left; (· (have d0 := hW.keeps.cell hng y0; have d1 := hW.keeps.cell hng y1; have d2 := hW.keeps.cell hng y2; have d3 := hW.keeps.cell hng y3; have d4 := hW.keeps.cell hng y4; have d5 := hW.keeps.cell hng y5; have d6 := hW.keeps.cell hnf f0; go_simp; (try with_reducible rfl)))); (try simp only [Act.put, List.setIfInBounds_toArray, List.set_cons_zero, List.set_cons_succ])))
              refine Late.run_chain rfl rfl (by rfl) (fun Wi hWi K' hK => ?_)
              refine wp_append_L (α := Int) (S := fun _ => False) (base := Wi.heap.size) (v := .slice none 0 0) (l := []) (m := l) eiInts _ _ rfl rfl rfl (OwnL.nil _ _ _ _) ((HXS.out.keep (.of_step (HT.out.trans hWi))).flat _) l.length (by simp) l rfl (by simp only [maxLen]; omega) (by omega) (Nat.le_refl _) (fun pv cv w5 hown5 hg5 => ?_)
              have hS5 : Step Wi w5 := .of ((Below.refl _ Wi).grown hg5 (Nat.le_refl _) (by simp [Value.ownBlock]))
              have HTx := Lib.hid ((HT.out.trans hWi).trans hS5)
              have HSY := Lib.hid ((HSX.out.trans hWi).trans hS5)
              have HWI := Lib.hid (show W3.heap.size ≤ Wi.heap.size from (HT.out.trans hWi).size)
              have HOW := Lib.hid hown5
              refine hK _ _ hS5 ?_
              clear hK hS5 hg5 hown5 hWi HT HSX y0 y1 y2 y3 y4 y5 e0 e1 e2 e3 e4 f0 f1 f2 f3 f4 f5
              have HT := HTx
              (try simp only [Act.put, List.setIfInBounds_toArray, List.set_cons_zero, List.set_cons_succ])
              repeat (first | (refine Late.run_off rfl rfl (by rfl) ?_; (try simp only [Act.put, List.setIfInBounds_toArray, List.set_cons_zero, List.set_cons_succ])) | ((refine Late.run_want rfl rfl (by rfl) ⟨?_, fun W hW => ?_, ?_⟩; rotate_left; (· (skip; go_simp; (try with_reducible rfl)))); (try simp only [Act.put, List.setIfInBounds_toArray, List.set_cons_zero, List.set_cons_succ])))
              refine Late.run_end rfl rfl (L := [_, _]) rfl (fun W6 hW6 K6 hK6 => ?_)
              have HTy := Lib.hid (HT.out.trans hW6)
              have HD6 := Lib.hid ((HD3.out.step HSY.out).step hW6)
              have HV6 := Lib.hid (OwnL.step HOW.out hW6)
              clear HT HTx HSY HOW hW6
              have HT := HTy
              clear HTy
              refine wp_store_L (v := .agg #[.int .i64 (giveTo b i l).agency, .slice (some ⟨gs, 0, none⟩) b.seats.length cvs, .slice pvo b.off.length cvo, .int .i64 (b.sent + 1), .slice pvt b.took.length cvt, .int .i64 (giveTo b i l).cash]) _ _ _ rfl rfl rfl (HB3.out.step HT.out) (by kernel_rfl) (by simp [Value.cells]) (by simp [Value.cells, Value.oneCell']) [.int .i64 (giveTo b i l).agency, .slice (some ⟨gs, 0, none⟩) b.seats.length cvs, .slice pvo b.off.length cvo, .int .i64 (b.sent + 1), .slice pvt b.took.length cvt, .int .i64 (giveTo b i l).cash] rfl (fun w7 hb7 hw7 => ?_)
              have hx7 : StepX (fun j => j = w.heap.size + 2) W6 w7 := StepX.grown hw7.grown (fun j hj _ => by injection hj with e; exact e.symm)
              refine hK6 _ _ hx7 ?_
              have HX7 := Lib.hid hx7
              have HB7 := Lib.hid hb7
              have HM7 := Lib.hid ((HB4.out.step HT.out).keep hx7.keeps (by omega))
              clear hK6 hx7 hb7 hw7 hng hnf
              (try simp only [Act.put, List.setIfInBounds_toArray, List.set_cons_zero, List.set_cons_succ])
              obtain ⟨n0, n1, n2, n3, n4⟩ := cells5 HM7.out
              have l0 := HM7.out.frozen 0
              have l1 := HM7.out.frozen 1
              have l2 := HM7.out.frozen 2
              have l3 := HM7.out.frozen 3
              have l4 := HM7.out.frozen 4
              go_wp2
              have b5 := set5 HM7.out (.int .i64 b.agency) (.int .i64 t) (.int .i64 (b.sent + 1)) (.int .i64 i) (.slice pv l.length cv)
              refine ret_struct_cc (k := 6) (k' := 5) rfl siRefBook siRefMessage rfl rfl (HB7.out.keep b5.2.keeps (by omega)) b5.1 rfl rfl rfl ?_
              unfold RGiveEnds
              rw [HFIN.out]
              have hk65 : Keeps (fun j => j < w.heap.size + 4) W6 _ := (HX7.out.keeps.mono fun j _ hj => by omega).trans (b5.2.keeps.mono fun j _ hj => by omega)
              have hw4 := HWI.out
              have hz4 := HZ3.out
              refine ⟨_, _, rfl, ⟨_, rfl, Rep.weak (S := fun j => j < w.heap.size + 4) (fun j _ hj => by unfold Old at hj; omega) (Rep.keep hk65 (HD6.out.book (fun j h1 h2 => by omega)))⟩, ⟨_, rfl, _, rfl, ?_⟩, StepX.fresh (StepX.fresh (HS.out.trans HT.out) HX7.out (fun j hj => by omega)) b5.2 (fun j hj => by omega)⟩
              exact SL.weak (S := fun j => j < w.heap.size + 4) (fun j _ hj => by unfold Old at hj; omega) (SL.keep hk65 (OwnL.sl HV6.out fun j h1 h2 h3 => by omega))
end Go.Proofs.Ytbgfmikbhiblgaa
