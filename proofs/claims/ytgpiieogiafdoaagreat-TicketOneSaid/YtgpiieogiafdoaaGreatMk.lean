/- Walks and plain laws, part k. -/
import Derived.Test.YtgpiieogiafdoaaGreatMj
import Derived.Test.YtgpiieogiafdoaaGreatMm
namespace Go.Proofs.YtgpiieogiafdoaaGreat
set_option linter.unusedSimpArgs false
set_option linter.unusedVariables false
open Go.RowKit Go.BT
theorem seat_nn {h : House} {b : Book} (hb : bookB h b = true) {i j : Nat} (hi : i < b.seats.length) (hj : j < b.seats[i].length) : -1 ≤ seatAt b i j := by
 have h1 := List.all_eq_true.1 (bookB_parts hb).rows _ (List.getElem_mem hi)
 simp only [rowB, Bool.and_eq_true] at h1
 have h2 := List.all_eq_true.1 h1.2 _ (List.getElem_mem hj)
 simp only [withinB, decide_eq_true_eq] at h2
 have : seatAt b i j = b.seats[i][j] := by simp [seatAt, List.getD_eq_getElem?_getD, hi, hj]
 omega
set_option maxRecDepth 100000 in
set_option maxHeartbeats 8000000 in
theorem TicketOne_any (h : House) (l : List ActT) (v u : Value) (w : World) (hv : AV (fun _ => False) w v h) (hu : SL (fun _ => False) w u l) :
  Calls Tryz.prog 6 #[v, u] w fun e w' => e = .returned (.bool true) ∧ Step w w' := by
 obtain ⟨c0, c1, c2, c3, c4, rfl, h0, h1, h2, h3, h4⟩ := hv.house
 obtain ⟨p0, k0, rfl⟩ := h0.form
 obtain ⟨p1, k1, rfl⟩ := h1.form
 obtain ⟨p2, k2, rfl⟩ := h2.form
 obtain ⟨p3, k3, rfl⟩ := h3.form
 obtain ⟨p4, k4, rfl⟩ := h4.form
 obtain ⟨pu, ku, rfl⟩ := hu.form
 obtain ⟨W0, hW0⟩ : ∃ W0, W0 = w.alloc (.cells #[.slice p0 h.sectors.length k0, .slice p1 h.prices.length k1, .slice p2 h.dates.length k2, .slice p3 h.frm.length k3, .slice p4 h.holds.length k4] 26) := ⟨_, rfl⟩
 have hS : Step w W0 := by subst hW0; exact Step.alloc _ _
 have hb0 : Bx W0 w.heap.size [.slice p0 h.sectors.length k0, .slice p1 h.prices.length k1, .slice p2 h.dates.length k2, .slice p3 h.frm.length k3, .slice p4 h.holds.length k4] 26 := by subst hW0; exact Bx.new _ [_, _, _, _, _] _
 have HH := Lib.hid (hv.keep (.of_step hS))
 have HU := Lib.hid (hu.keep (.of_step hS))
 have HPR := Lib.hid (h1.keep (.of_step hS))
 have HS := Lib.hid hS
 have HB := Lib.hid hb0
 have HW := Lib.hid hW0
 clear hv hu hS hb0 hW0 h0 h1 h2 h3 h4
 go_enter Tryz.func6, Tryz.ntmps6
 go_upto_region 1 with (fail)
 rw [← HW.out]
 clear HW
 obtain ⟨e0, e1, e2, e3, e4⟩ := cells5 HB.out
 go_wp2_with fail
 refine (may_any (fun _ => False) h l _ _ _ HH.out HU.out).mono ?_
 rintro e wn ⟨rfl, hSn⟩
 have HT := Lib.hid hSn
 clear hSn e0 e1 e2 e3 e4
 cases qm : mayB h l with
 | false =>
  clear qm
  go_wp2_with fail
  refine (awake_any _).mono ?_
  rintro e wz ⟨rfl, hSz⟩
  go_wp2
  go_ret
  exact ⟨rfl, HS.out.trans (HT.out.trans hSz)⟩
 | true =>
 have HM := Lib.hid qm
 clear qm
 obtain ⟨e0, e1, e2, e3, e4⟩ := cells5 (HB.out.step HT.out)
 go_wp2_with fail
 refine (ran_any (fun _ => False) h l _ _ _ (HH.out.keep (.of_step HT.out)) (HU.out.keep (.of_step HT.out)) HM.out).mono ?_
 rintro e w2 ⟨vw, rfl, hvw, hSn⟩
 obtain ⟨b0, b1, rfl, s0, s1⟩ := hvw.wd
 obtain ⟨q0, r0, rfl⟩ := s0.form
 obtain ⟨q1, r1, rfl⟩ := s1.form
 have HV := Lib.hid (may_parts HM.out)
 have HI := Lib.hid (world_inv HV.out.1 l l.length)
 have HTO := Lib.hid (fun i => took_le HV.out.1 l l.length i)
 have HLE := Lib.hid (msgs_le HV.out.1 l l.length)
 obtain ⟨W, hW⟩ : ∃ W, W = worldAt h l l.length := ⟨_, rfl⟩
 rw [← hW] at s0 s1 HI HTO HLE ⊢
 have HSB := Lib.hid (And.intro s0 s1)
 have HT2 := Lib.hid (HT.out.trans hSn)
 clear HT s0 s1 hvw hSn hW e0 e1 e2 e3 e4
 have HT := HT2
 clear HT2
 obtain ⟨lm, hlm⟩ : ∃ n, n = W.msgs.length := ⟨_, rfl⟩
 rw [← hlm]
 have HLM := Lib.hid hlm
 clear hlm
 go_upto_region 4 with (fail)
 obtain ⟨W3, hW3⟩ : ∃ W3, W3 = w2.alloc (.cells #[.slice q0 W.books.length r0, .slice q1 lm r1] 34) := ⟨_, rfl⟩
 have hb3 : Bx W3 w2.heap.size [.slice q0 W.books.length r0, .slice q1 lm r1] 34 := by subst hW3; exact Bx.new _ [_, _] _
 have hS3 : Step w2 W3 := by subst hW3; exact Step.alloc _ _
 rw [← hW3]
 have HB3 := Lib.hid hb3
 have HSB3 := Lib.hid (And.intro ((HSB.out.1.weak (T := fun _ => False) fun _ _ h => h.elim).keep (.of_step hS3)) ((HSB.out.2.weak (T := fun _ => False) fun _ _ h => h.elim).keep (.of_step hS3)))
 have HT2 := Lib.hid (HT.out.trans hS3)
 clear HT hb3 hS3 hW3 HSB
 have HT := HT2
 clear HT2
 have HVW := Lib.hid (show AV (fun _ => False) W3 (.agg #[.slice q0 W.books.length r0, .slice q1 lm r1]) W by rw [HLM.out]; exact ⟨_, rfl, _, _, rfl, HSB3.out.1, HSB3.out.2⟩)
 have HML := Lib.hid (show W.msgs.length ≤ 1000000 by have := HLE.out; have := HV.out.2.2; omega)
 replace HH := Lib.hid (HH.out.keep (.of_step HT.out)); replace HB := Lib.hid (HB.out.step HT.out); replace HS := Lib.hid (HS.out.trans HT.out)
 clear HT HSB3 HTO HLE HU HPR
 obtain ⟨e0, e1, e2, e3, e4⟩ := cells5 HB.out
 obtain ⟨y0, y1⟩ : W3.cell? ⟨w2.heap.size, 0, none⟩ = some (.slice q0 W.books.length r0) ∧ W3.cell? ⟨w2.heap.size, 1, none⟩ = some (.slice q1 lm r1) := ⟨HB3.out.cell 0, HB3.out.cell 1⟩
 refine wp_region_seqM (fun c d v a w h => by cases d <;> exact h) (kdOf [4, 6, 12] []) [0, 1, 3, 7, 15, 7, 63, 127, 255, 511, 1023, 1023, 4095, 8191, 16383] [0, 1, 2, 3, 5, 4, 6, 7, 8, 9, 10, 11, 12, 13, 14] [] (by kernel_rfl) (by kernel_rfl) (fun i T z hi hk => by simp [kdOf] at hk <;> (try (split at hk <;> cases hk))) ?_
 intro Wx hWx
 have e0 := (hWx).kc e0; have e1 := (hWx).kc e1; have e2 := (hWx).kc e2; have e3 := (hWx).kc e3; have e4 := (hWx).kc e4; have y0 := (hWx).kc y0; have y1 := (hWx).kc y1
 repeat (first | (refine run_off rfl rfl (by rfl) ?_; (try simp only [Act.put, zA, zB, zC])) | (refine run_chain_off rfl rfl (by rfl) (K0_mono _) ?_; (try simp only [Act.put, zA, zB, zC])) | ((refine run_want rfl rfl (by rfl) ⟨?_, fun W hW => ?_, ?_⟩; rotate_left; (· (have d0 := hW.kc e0; have d1 := hW.kc e1; have d2 := hW.kc e2; have d3 := hW.kc e3; have d4 := hW.kc e4; have d5 := hW.kc y0; have d6 := hW.kc y1; go_simp; (try with_reducible rfl)))); (try simp only [Act.put, zA, zB, zC])))
 refine run_chain rfl rfl (by rfl) (fun Wi hWi K' hK => ?_)
 have HTi := Lib.hid (hWx.trans hWi)
 clear hWx
 go_simp
 refine (House_any _ h _ _ (HH.out.keep (.of_step HTi.out)) (few_valid HV.out.1)).mono ?_
 rintro e wn ⟨vh, rfl, hvh, hSn⟩
 have HVH := Lib.hid (AV.triv hvh)
 have HT := Lib.hid (HTi.out.trans hSn)
 refine hK _ _ (StepX.of hSn) ?_
 have e0 := (hWi.trans hSn).kc e0; have e1 := (hWi.trans hSn).kc e1; have e2 := (hWi.trans hSn).kc e2; have e3 := (hWi.trans hSn).kc e3; have e4 := (hWi.trans hSn).kc e4; have y0 := (hWi.trans hSn).kc y0; have y1 := (hWi.trans hSn).kc y1
 clear hSn hK HTi hWi hvh
 (try simp only [Act.put, zA, zB, zC])
 repeat (first | (refine run_off rfl rfl (by rfl) ?_; (try simp only [Act.put, zA, zB, zC])) | (refine run_chain_off rfl rfl (by rfl) (K0_mono _) ?_; (try simp only [Act.put, zA, zB, zC])) | ((refine run_want rfl rfl (by rfl) ⟨?_, fun W hW => ?_, ?_⟩; rotate_left; (· (have d0 := hW.kc e0; have d1 := hW.kc e1; have d2 := hW.kc e2; have d3 := hW.kc e3; have d4 := hW.kc e4; have d5 := hW.kc y0; have d6 := hW.kc y1; go_simp; (try with_reducible rfl)))); (try simp only [Act.put, zA, zB, zC])))
 refine run_chain rfl rfl (by rfl) (fun Wi hWi K' hK => ?_)
 have HTi := Lib.hid (HT.out.trans hWi)
 clear HT
 go_simp
 refine (Sound_any _ _ h W _ _ _ (HVH.out.keep (.of_step hWi)) (HVW.out.keep (.of_step HTi.out)) HML.out).mono ?_
 rintro e wn2 ⟨rfl, hSn⟩
 rw [inv_sound HV.out.1 HI.out]
 have HT := Lib.hid (HTi.out.trans hSn)
 refine hK _ _ (StepX.of hSn) ?_
 have e0 := (hWi.trans hSn).kc e0; have e1 := (hWi.trans hSn).kc e1; have e2 := (hWi.trans hSn).kc e2; have e3 := (hWi.trans hSn).kc e3; have e4 := (hWi.trans hSn).kc e4; have y0 := (hWi.trans hSn).kc y0; have y1 := (hWi.trans hSn).kc y1
 clear hSn hK HTi hWi HVH
 (try simp only [Act.put, zA, zB, zC])
 repeat (first | (refine run_off rfl rfl (by rfl) ?_; (try simp only [Act.put, zA, zB, zC])) | (refine run_chain_off rfl rfl (by rfl) (K0_mono _) ?_; (try simp only [Act.put, zA, zB, zC])) | ((refine run_want rfl rfl (by rfl) ⟨?_, fun W hW => ?_, ?_⟩; rotate_left; (· (have d0 := hW.kc e0; have d1 := hW.kc e1; have d2 := hW.kc e2; have d3 := hW.kc e3; have d4 := hW.kc e4; have d5 := hW.kc y0; have d6 := hW.kc y1; go_simp; (try with_reducible rfl)))); (try simp only [Act.put, zA, zB, zC])))
 refine run_chain rfl rfl (by rfl) (fun Wi hWi K' hK => ?_)
 have HTi := Lib.hid (HT.out.trans hWi)
 clear HT
 go_simp
 refine (seatsW_any _ h W _ _ _ (HH.out.keep (.of_step HTi.out)) (HVW.out.keep (.of_step HTi.out)) HV.out.1 HI.out.ok).mono ?_
 rintro e wn3 ⟨rfl, hSn⟩
 have HT := Lib.hid (HTi.out.trans hSn)
 refine hK _ _ (StepX.of hSn) ?_
 clear hSn hK HTi hWi e0 e1 e2 e3 e4 y0 y1
 (try simp only [Act.put, zA, zB, zC])
 repeat (first | (refine run_off rfl rfl (by rfl) ?_; (try simp only [Act.put, zA, zB, zC])) | (refine run_chain_off rfl rfl (by rfl) (K0_mono _) ?_; (try simp only [Act.put, zA, zB, zC])) | ((refine run_want rfl rfl (by rfl) ⟨?_, fun W hW => ?_, ?_⟩; rotate_left; (· (skip; go_simp; (try with_reducible rfl)))); (try simp only [Act.put, zA, zB, zC])))
 refine run_end (L := []) rfl (fun Wb hWb => ?_)
 have hT6 := HT.out.trans hWb
 replace HH := Lib.hid (HH.out.keep (.of_step hT6)); replace HVW := Lib.hid (HVW.out.keep (.of_step hT6)); replace HB := Lib.hid (HB.out.step hT6); replace HB3 := Lib.hid (HB3.out.step hT6); replace HS := Lib.hid (HS.out.trans hT6)
 clear hT6 hWb HT
 have hrows : SL (fun _ => False) Wb (.slice p4 h.holds.length k4) h.holds := by
  obtain ⟨d0, d1, d2, d3, d4, hde, _, _, _, _, h4⟩ := HH.out.house
  cases hde; exact h4
 have hbooks : SL (fun _ => False) Wb (.slice q0 W.books.length r0) W.books := by
  obtain ⟨d0, d1, hde, s0, s1⟩ := HVW.out.wd
  cases hde; exact s0
 have hbv := bounds_valid HV.out.1
 obtain ⟨pr, cr, rb, ro, hpe, _, _, hpr, hcr, _⟩ := hrows.rows
 injection hpe with hpe1 hpe2 hpe3
 clear hpe2 hpe3
 subst hpe1
 obtain rfl := hpr (by omega)
 obtain ⟨x0, hx0, hsx⟩ := hcr 0 (by omega)
 obtain ⟨px, cx, rfl⟩ := hsx.form
 obtain ⟨nz, hnz⟩ : ∃ n : Nat, sizeL h.sectors = n := ⟨(sizeL h.sectors).toNat, by omega⟩
 have hz1 : nz ≤ 100 := by omega
 have hz2 : (h.holds[0]'(by omega)).length = nz := by have := hbv.2.2.2.2.2.2.2.2.1 0 (by omega); omega
 rw [hz2] at hx0
 simp only [Nat.add_zero] at hx0
 have HX0 := Lib.hid hx0
 have HNZ := Lib.hid hnz
 have hd6 : h.dates.length ≤ 6 := by omega
 have hdh : 0 < h.holds.length := by omega
 have hb6 : W.books.length ≤ 6 := by have := HI.out.ok.len; omega
 obtain ⟨pq, cq, bb, bo, hqe, _, _, hpq, hcq, _⟩ := hbooks.books
 injection hqe with hqe1 hqe2 hqe3
 clear hqe2 hqe3
 subst hqe1
 have HC := Lib.hid (And.intro hpq hcq)
 clear hrows hbooks hbv hpr hcr hsx hx0 hnz hz2 hpq hcq
 have HT := Lib.hid (Step.refl Wb)
 go_upto_region 7 with (fail)
 go_loopw [7] (fun iv wr => ∃ k : Nat, k ≤ h.dates.length ∧ iv = .int .i64 k ∧ Step Wb wr) (fun iv _ => h.dates.length - (intOf iv).toNat)
 case atStart => exact ⟨0, Nat.zero_le _, rfl, HT.out⟩
 case round =>
  obtain ⟨k, hk, rfl, hT⟩ := hrel
  have HTk := Lib.hid hT
  clear hT HT
  obtain ⟨e0, e1, e2, e3, e4⟩ := cells5 (HB.out.step HTk.out)
  by_cases hlt : k < h.dates.length
  ·go_upto_region 10 with (fail)
   clear e0 e1 e2 e3 e4
   go_loopw [8] (fun iv wi => ∃ j : Nat, j ≤ nz ∧ iv = .int .i64 j ∧ Step Wb wi) (fun iv _ => nz - (intOf iv).toNat)
   case atStart => exact ⟨0, Nat.zero_le _, rfl, HTk.out⟩
   case round =>
    obtain ⟨j, hj, rfl, hT⟩ := hrel
    clear HTk
    have HTj := Lib.hid hT
    clear hT
    obtain ⟨e0, e1, e2, e3, e4⟩ := cells5 (HB.out.step HTj.out)
    have x0 := HTj.out.kc HX0.out
    have hix0 : (0 : Int) < (h.holds.length : Int) := by omega
    by_cases hjt : j < nz
    ·have HW5 := Lib.hid (inv_where HV.out.1 HI.out (s := k) (i := j) hlt (by have := HNZ.out; omega))
     go_upto_region 14 with (fail)
     clear e0 e1 e2 e3 e4 x0
     go_loopw [9, 10, 11] (fun v9 v10 iv wa => ∃ a : Nat, a ≤ W.books.length ∧ iv = .int .i64 a ∧ v9 = .int .i64 (numsB (agsP W k j) a).length ∧ v10 = .int .i64 (lastP (agsP W k j) a) ∧ Step Wb wa) (fun _ _ iv _ => W.books.length - (intOf iv).toNat)
     case atStart => exact ⟨0, Nat.zero_le _, rfl, rfl, rfl, HTj.out⟩
     case round =>
      obtain ⟨a, ha, rfl, rfl, rfl, hT⟩ := hrel
      clear HTj
      have HTa := Lib.hid hT
      clear hT
      obtain ⟨y0, y1⟩ : wr.cell? ⟨w2.heap.size, 0, none⟩ = some (.slice q0 W.books.length r0) ∧ wr.cell? ⟨w2.heap.size, 1, none⟩ = some (.slice q1 lm r1) := ⟨(HB3.out.step HTa.out).cell 0, (HB3.out.step HTa.out).cell 1⟩
      have hlen := numsB_len (agsP W k j) a
      by_cases hat : a < W.books.length
      ·obtain rfl := HC.out.1 (by omega)
       obtain ⟨z1, z2, z4, ⟨_, f1, _, _, _, _⟩, t1, t2, t4⟩ := HC.out.2 a hat
       have hbv := HI.out.ok.book a hat
       obtain ⟨b, hb⟩ : ∃ b, b = W.books[a] := ⟨_, rfl⟩
       have hbq : bk W a = b := by rw [hb]; exact bk_at hat
       rw [← hb] at t1 hbv
       have P := bookB_parts hbv.1
       have his : k < b.seats.length := by rw [P.seats]; exact hlt
       have hjs : j < b.seats[k].length := by
        have h1 := List.all_eq_true.1 P.rows _ (List.getElem_mem his)
        simp only [rowB, Bool.and_eq_true, decide_eq_true_eq] at h1
        have := h1.1
        have := HNZ.out
        omega
       have hge := seat_nn hbv.1 his hjs
       obtain ⟨sb, so, sk, tb, tp, tk, rfl, g1, g2⟩ := t1.seat his hjs
       obtain ⟨x, hx⟩ : ∃ x, x = seatAt b k j := ⟨_, rfl⟩
       rw [← hx] at g2 hge
       have hag : agsP W k j a = decide (x ≠ -1) := by unfold agsP; rw [hbq, ← hx]
       obtain ⟨n1, hn1⟩ : ∃ n, n = b.seats[k].length := ⟨_, rfl⟩
       obtain ⟨n0, hn0⟩ : ∃ n, n = b.seats.length := ⟨_, rfl⟩
       rw [← hn1] at g1 hjs
       rw [← hn0] at f1 his
       have f1 := (HTa.out).kc f1; have g1 := (HTa.out).kc g1; have g2 := (HTa.out).kc g2
       have hixa : (0 : Int) ≤ (a : Int) ∧ (a : Int) < (W.books.length : Int) := by omega
       have hixs : (0 : Int) ≤ (k : Int) ∧ (k : Int) < (n0 : Int) := by omega
       have hixj : (0 : Int) ≤ (j : Int) ∧ (j : Int) < (n1 : Int) := by omega
       clear hn1 hn0 hx hb hbq t2 t4 hbv P
       cases qa : agsP W k j a with
       | false =>
        have hd : decide ((0 : Int) ≤ x) = false := by
         rw [qa] at hag
         have : ¬ x ≠ -1 := of_decide_eq_false hag.symm
         exact decide_eq_false (by omega)
        have HN1 := Lib.hid (show numsB (agsP W k j) (a + 1) = numsB (agsP W k j) a from numsB_no qa)
        have HN2 := Lib.hid (show lastP (agsP W k j) (a + 1) = lastP (agsP W k j) a by rw [lastP, qa]; rfl)
        clear hag qa hge
        go_wp2
        go_roundw
        case rel => exact ⟨a + 1, by omega, by go_num, by rw [HN1.out], by rw [HN2.out], HTa.out⟩
        case measure => simp [intOf]; omega
       | true =>
        have hd : decide ((0 : Int) ≤ x) = true := by
         rw [qa] at hag
         have : x ≠ -1 := of_decide_eq_true hag.symm
         exact decide_eq_true (by omega)
        have HN1 := Lib.hid (show ((numsB (agsP W k j) (a + 1)).length : Int) = (numsB (agsP W k j) a).length + 1 by rw [numsB_yes qa]; simp)
        have HN2 := Lib.hid (show lastP (agsP W k j) (a + 1) = a by rw [lastP, qa]; rfl)
        clear hag qa hge
        obtain ⟨cn, hcn⟩ : ∃ c, c = (numsB (agsP W k j) a).length := ⟨_, rfl⟩
        rw [← hcn] at hlen HN1 ⊢
        clear hcn
        go_wp2
        go_roundw
        case rel => exact ⟨a + 1, by omega, by go_num, by rw [HN1.out], by rw [HN2.out], HTa.out⟩
        case measure => simp [intOf]; omega
      ·obtain rfl : a = W.books.length := by omega
       obtain ⟨A, M, hwh, h1, h2, h3, h4, h5, h6⟩ := HW5.out
       rw [h2]
       obtain ⟨cn, hcn⟩ : ∃ c, c = (numsB (agsP W k j) W.books.length).length := ⟨_, rfl⟩
       rw [← hcn] at h1 ⊢
       have HWH := Lib.hid hwh
       have HLA := Lib.hid (And.intro h4 (And.intro h5 h6))
       have d1 : decide ((1 : Int) < (cn : Int)) = false := decide_eq_false (by omega)
       have d2 : (A != A) = false := by simp
       have d4 : decide ((lm : Int) ≤ M) = false := decide_eq_false (by have := HLM.out; omega)
       have D := Lib.hid (And.intro d1 (And.intro d2 (And.intro d4 h3)))
       clear hcn hwh h1 h2 h3 h4 h5 h6 hlen d1 d2 d4 hat HW5
       go_upto_region 19 with (fail)
       clear y0 y1
       obtain ⟨e0, e1, e2, e3, e4⟩ := cells5 (HB.out.step HTa.out)
       obtain ⟨y0, y1⟩ : wr.cell? ⟨w2.heap.size, 0, none⟩ = some (.slice q0 W.books.length r0) ∧ wr.cell? ⟨w2.heap.size, 1, none⟩ = some (.slice q1 lm r1) := ⟨(HB3.out.step HTa.out).cell 0, (HB3.out.step HTa.out).cell 1⟩
       refine wp_region_seqM (fun c d v a w h => by cases d <;> exact h) (kdOf [1, 5] []) [0, 1, 0, 0, 0, 31, 63, 127, 127, 127, 255, 1535, 4095] [0, 2, 3, 4, 1, 5, 6, 7, 8, 9, 10, 11, 12] [] (by kernel_rfl) (by kernel_rfl) (fun i T z hi hk => by simp [kdOf] at hk <;> (try (split at hk <;> cases hk))) ?_
       intro Wx hWx
       have e0 := (hWx).kc e0; have e1 := (hWx).kc e1; have e2 := (hWx).kc e2; have e3 := (hWx).kc e3; have e4 := (hWx).kc e4; have y0 := (hWx).kc y0; have y1 := (hWx).kc y1
       repeat (first | (refine run_off rfl rfl (by rfl) ?_; (try simp only [Act.put, zA, zB, zC])) | (refine run_chain_off rfl rfl (by rfl) (K0_mono _) ?_; (try simp only [Act.put, zA, zB, zC])) | ((refine run_want rfl rfl (by rfl) ⟨?_, fun W hW => ?_, ?_⟩; rotate_left; (· (have d0 := hW.kc e0; have d1 := hW.kc e1; have d2 := hW.kc e2; have d3 := hW.kc e3; have d4 := hW.kc e4; have d5 := hW.kc y0; have d6 := hW.kc y1; go_simp; (try with_reducible rfl)))); (try simp only [Act.put, zA, zB, zC])))
       refine run_chain rfl rfl (by rfl) (fun Wi hWi K' hK => ?_)
       have HTi := Lib.hid ((HTa.out.trans hWx).trans hWi)
       clear hWx
       go_simp
       refine (House_any _ h _ _ (HH.out.keep (.of_step HTi.out)) (few_valid HV.out.1)).mono ?_
       rintro e wn ⟨vh, rfl, hvh, hSn⟩
       have HVH := Lib.hid (AV.triv hvh)
       have HT := Lib.hid (HTi.out.trans hSn)
       refine hK _ _ (StepX.of hSn) ?_
       have e0 := (hWi.trans hSn).kc e0; have e1 := (hWi.trans hSn).kc e1; have e2 := (hWi.trans hSn).kc e2; have e3 := (hWi.trans hSn).kc e3; have e4 := (hWi.trans hSn).kc e4; have y0 := (hWi.trans hSn).kc y0; have y1 := (hWi.trans hSn).kc y1
       clear hSn hK HTi hWi hvh
       (try simp only [Act.put, zA, zB, zC])
       repeat (first | (refine run_off rfl rfl (by rfl) ?_; (try simp only [Act.put, zA, zB, zC])) | (refine run_chain_off rfl rfl (by rfl) (K0_mono _) ?_; (try simp only [Act.put, zA, zB, zC])) | ((refine run_want rfl rfl (by rfl) ⟨?_, fun W hW => ?_, ?_⟩; rotate_left; (· (have d0 := hW.kc e0; have d1 := hW.kc e1; have d2 := hW.kc e2; have d3 := hW.kc e3; have d4 := hW.kc e4; have d5 := hW.kc y0; have d6 := hW.kc y1; go_simp; (try with_reducible rfl)))); (try simp only [Act.put, zA, zB, zC])))
       refine run_chain rfl rfl (by rfl) (fun Wi hWi K' hK => ?_)
       have HTi := Lib.hid (HT.out.trans hWi)
       clear HT
       go_simp
       refine (Where_any _ _ h W k j _ _ _ (HVH.out.keep (.of_step hWi)) (HVW.out.keep (.of_step HTi.out)) HML.out).mono ?_
       rintro e wn2 ⟨rfl, hSn⟩
       rw [HWH.out]
       have HT := Lib.hid (HTi.out.trans hSn)
       refine hK _ _ (StepX.of hSn) ?_
       clear hSn hK HTi hWi HVH e0 e1 e2 e3 e4 y0 y1
       (try simp only [Act.put, zA, zB, zC])
       repeat (first | (refine run_off rfl rfl (by rfl) ?_; (try simp only [Act.put, zA, zB, zC])) | (refine run_chain_off rfl rfl (by rfl) (K0_mono _) ?_; (try simp only [Act.put, zA, zB, zC])) | ((refine run_want rfl rfl (by rfl) ⟨?_, fun W hW => ?_, ?_⟩; rotate_left; (· (skip; go_simp; (try with_reducible rfl)))); (try simp only [Act.put, zA, zB, zC])))
       refine run_end (L := []) rfl (fun Wf hWf => ?_)
       have HTf := Lib.hid (HT.out.trans hWf)
       clear hWf HT
       obtain ⟨d1, d2, d4, h3⟩ := D.out
       obtain ⟨y0, y1⟩ : Wf.cell? ⟨w2.heap.size, 0, none⟩ = some (.slice q0 W.books.length r0) ∧ Wf.cell? ⟨w2.heap.size, 1, none⟩ = some (.slice q1 lm r1) := ⟨(HB3.out.step HTf.out).cell 0, (HB3.out.step HTf.out).cell 1⟩
       by_cases qA : A < 0
       ·have a1 : decide (A < 0) = true := decide_eq_true qA
        have a2 : decide ((0 : Int) ≤ M) = true := decide_eq_true (h3.2 qA)
        clear h3 qA
        go_wp2
        go_roundw
        case rel => exact ⟨j + 1, by omega, by go_num, HTf.out⟩
        case measure => simp [intOf]; omega
       ·have a1 : decide (A < 0) = false := decide_eq_false qA
        have a2 : decide ((0 : Int) ≤ M) = false := decide_eq_false (fun e => qA (h3.1 e))
        clear h3 qA
        go_wp2
        go_roundw
        case rel => exact ⟨j + 1, by omega, by go_num, HTf.out⟩
        case measure => simp [intOf]; omega
    ·go_wp2
     go_roundw
     case rel => exact ⟨k + 1, by omega, by go_num, HTj.out⟩
     case measure => simp [intOf]; omega
  ·clear e0 e1 e3 e4
   have HT := HTk
   go_wp2_with fail
   refine (awake_any _).mono ?_
   rintro e wz ⟨rfl, hSz⟩
   go_wp2
   go_ret
   exact ⟨rfl, HS.out.trans (HT.out.trans hSz)⟩
end Go.Proofs.YtgpiieogiafdoaaGreat
