/- The law TicketSells is walked: it answers true. -/
import Derived.Test.YtbgfmikbhiblgaaMo
import Derived.Test.YtbgfmikbhiblgaaMq
import Derived.Test.YtbgfmikbhiblgaaRows
/- Walks: the law TicketSells: it answers true. -/
namespace Go.Proofs.Ytbgfmikbhiblgaa
set_option linter.unusedSimpArgs false
set_option linter.unusedVariables false
open Go.RowKit Go.BT

theorem done_gate {h : House} {b : Book} {r : Except Int Book} (hw : wrongB h b = true) : doneR h b r = .error 1 := by
  have := wrong_yes hw
  unfold doneR checkR
  rw [this]; rfl
theorem done_right {h : House} {b : Book} {r : Except Int Book} (hw : wrongB h b = false) : doneR h b r = r := by
  obtain ⟨h1, h2⟩ := wrong_no hw
  unfold doneR checkR
  rw [h1, h2]; rfl
theorem thin_put {b : Book} (ht : thinP b) (i j : Nat) (y : Int) : thinP (putSeat b i j y) := by
  refine ⟨by simp [putSeat]; exact ht.1, fun k hk => ?_, ht.2.2.1, ht.2.2.2⟩
  have hk' : k < b.seats.length := by simpa [putSeat] using hk
  have := (like_put b i j y).row k hk' hk
  rw [this]
  exact ht.2.1 k hk'
theorem thin_sell {h : House} {b : Book} (ht : thinP b) (s n y d : Int) : thinP (actR (sellD h b s n y d)).1 := by
  unfold sellD
  split
  · exact thin_put ht _ _ _
  · exact noBook_thin
theorem thin_refund {h : House} {b : Book} (ht : thinP b) (s n : Int) : thinP (actR (refundD h b s n)).1 := by
  unfold refundD
  split
  · exact thin_put ht _ _ _
  · exact noBook_thin
set_option maxRecDepth 100000 in
set_option maxHeartbeats 8000000 in
theorem TicketSells_any (h : House) (b : Book) (s n y d : Int) (v u : Value) (w : World) (hv : AV (fun _ => False) w v h) (hu : AV (fun _ => False) w u b) :
    Calls Try.prog 5 #[v, u, .int .i64 s, .int .i64 n, .int .i64 y, .int .i64 d] w fun e w' => e = .returned (.bool true) ∧ Step w w' := by
  obtain ⟨cs, rfl, hr0⟩ := hv
  have hr := hr0
  obtain ⟨c0, c1, c2, c3, c4, rfl, h0, h1, h2, h3, h4⟩ := hr
  obtain ⟨p0, k0, rfl⟩ := h0.form
  obtain ⟨p1, k1, rfl⟩ := h1.form
  obtain ⟨p2, k2, rfl⟩ := h2.form
  obtain ⟨p3, k3, rfl⟩ := h3.form
  obtain ⟨p4, k4, rfl⟩ := h4.form
  obtain ⟨cs, rfl, hq0⟩ := hu
  have hq := hq0
  obtain ⟨d1, d2, d4, rfl, s1, s2, s4⟩ := hq
  obtain ⟨q1, m1, rfl⟩ := s1.form
  obtain ⟨q2, m2, rfl⟩ := s2.form
  obtain ⟨q4, m4, rfl⟩ := s4.form
  obtain ⟨W2, hW2⟩ : ∃ W2, W2 = (w.alloc (.cells #[.slice p0 h.sectors.length k0, .slice p1 h.prices.length k1, .slice p2 h.dates.length k2, .slice p3 h.frm.length k3, .slice p4 h.holds.length k4] 26)).alloc (.cells #[.int .i64 b.agency, .slice q1 b.seats.length m1, .slice q2 b.off.length m2, .int .i64 b.sent, .slice q4 b.took.length m4, .int .i64 b.cash] 30) := ⟨_, rfl⟩
  have hbx : Bx W2 w.heap.size [.slice p0 h.sectors.length k0, .slice p1 h.prices.length k1, .slice p2 h.dates.length k2, .slice p3 h.frm.length k3, .slice p4 h.holds.length k4] 26 := by subst hW2; exact (Bx.new _ _ _).alloc _
  have hb2 : Bx W2 (w.heap.size + 1) [.int .i64 b.agency, .slice q1 b.seats.length m1, .slice q2 b.off.length m2, .int .i64 b.sent, .slice q4 b.took.length m4, .int .i64 b.cash] 30 := by subst hW2; exact Bx.new' _ _ _ _ (by simp)
  have hS : Step w W2 := by subst hW2; exact (by repeat (first | (with_reducible assumption) | (with_reducible exact Step.refl _) | (with_reducible apply Step.s_alloc) | (with_reducible apply Step.s_drew) | (with_reducible apply Step.s_drewN) | (with_reducible refine Step.trans ?_ (by with_reducible assumption))))
  have HB1 := Lib.hid hbx
  have HB2 := Lib.hid hb2
  have HR := Lib.hid (Rep.keep (.of_step hS) hr0)
  have HQ := Lib.hid (Rep.keep (.of_step hS) hq0)
  have HS := Lib.hid hS
  have HT := Lib.hid (Step.refl W2)
  have HW := Lib.hid hW2
  clear hr0 hq0 h0 h1 h2 h3 h4 s1 s2 s4 hbx hb2 hS hW2
  go_enter Try.func5, Try.ntmps5
  go_wp2_with fail
  rw [← HW.out]
  refine (Few_any (fun _ => False) h _ _ ⟨_, rfl, HR.out⟩).mono ?_
  rintro e wn ⟨rfl, hSn⟩
  have HTi := Lib.hid (HT.out.trans hSn)
  clear hSn HT
  have HT := HTi
  clear HTi
  (try clear e0 e1 e2 e3 e4 f0 f1 f2 f3 f4 f5 y1 y2)
  obtain ⟨e0, e1, e2, e3, e4⟩ := cells5 (HB1.out.step HT.out)
  obtain ⟨f0, f1, f2, f3, f4, f5⟩ := cells6 (HB2.out.step HT.out)
  have y1 := (HB1.out.step HT.out).lt
  have y2 := (HB2.out.step HT.out).lt
  cases qf : few h with
  | false =>
    clear qf
    go_wp2_with fail
    refine (awake_any _).mono ?_
    rintro e wz ⟨rfl, hSz⟩
    go_wp2
    go_ret
    exact ⟨rfl, HS.out.trans (HT.out.trans hSz)⟩
  | true =>
  have HFEW := Lib.hid (fewB_of qf)
  clear qf
  go_wp2_with fail
  refine (thin_any (fun _ => False) b _ _ ⟨_, rfl, Rep.keep (.of_step HT.out) HQ.out⟩).mono ?_
  rintro e wn ⟨rfl, hSn⟩
  have HTi := Lib.hid (HT.out.trans hSn)
  clear hSn HT
  have HT := HTi
  clear HTi
  (try clear e0 e1 e2 e3 e4 f0 f1 f2 f3 f4 f5 y1 y2)
  obtain ⟨e0, e1, e2, e3, e4⟩ := cells5 (HB1.out.step HT.out)
  obtain ⟨f0, f1, f2, f3, f4, f5⟩ := cells6 (HB2.out.step HT.out)
  have y1 := (HB1.out.step HT.out).lt
  have y2 := (HB2.out.step HT.out).lt
  cases qt : thin b with
  | false =>
    clear qt
    go_wp2_with fail
    refine (awake_any _).mono ?_
    rintro e wz ⟨rfl, hSz⟩
    go_wp2
    go_ret
    exact ⟨rfl, HS.out.trans (HT.out.trans hSz)⟩
  | true =>
  have HTHIN := Lib.hid (thinP_of qt)
  clear qt
  (try clear e0 e1 e2 e3 e4 f0 f1 f2 f3 f4 f5 y1 y2)
  go_upto_region 3 with (fail)
  have HSZ0 := Lib.hid (HT.out.size)
  have hwq := HT.out
  refine wp_region_seqM (fun c d v a w h => by cases d <;> exact h) (kdOf [1, 3, 8] [(12, 36, .agg #[.int .i64 0, .slice none 0 0, .slice none 0 0, .int .i64 0, .slice none 0 0, .int .i64 0])]) [0, 1, 0, 7, 0, 0, 0, 0, 255, 511, 1023, 1023, 0, 6143, 16383] [0, 2, 4, 5, 6, 7, 1, 3, 8, 9, 10, 11, 12] [13, 14] (by kernel_rfl) (by kernel_rfl) (fun i T z hi hk => by simp only [List.mem_cons, List.not_mem_nil, or_false] at hi; rcases hi with rfl | rfl | rfl | rfl | rfl | rfl | rfl | rfl | rfl | rfl | rfl | rfl | rfl <;> simp [kdOf] at hk <;> (obtain ⟨rfl, rfl⟩ := hk; first | (show Option.bind _ _ = some _; kernel_rfl) | (refine ⟨_, rfl, fun _ _ => ?_⟩; go_simp))) ?_
  intro Wx hWx
  have HTx := Lib.hid (hwq.trans hWx)
  clear hWx hwq HT
  have HT := HTx
  clear HTx
  (try clear e0 e1 e2 e3 e4 f0 f1 f2 f3 f4 f5 y1 y2)
  obtain ⟨e0, e1, e2, e3, e4⟩ := cells5 (HB1.out.step HT.out)
  obtain ⟨f0, f1, f2, f3, f4, f5⟩ := cells6 (HB2.out.step HT.out)
  have y1 := (HB1.out.step HT.out).lt
  have y2 := (HB2.out.step HT.out).lt
  repeat (first | (refine run_off rfl rfl (by rfl) ?_; (try simp only [Act.put, List.setIfInBounds_toArray, List.set_cons_zero, List.set_cons_succ])) | (refine run_chain_off rfl rfl (by rfl) (K0_mono _) ?_; (try simp only [Act.put, List.setIfInBounds_toArray, List.set_cons_zero, List.set_cons_succ])) | ((refine run_want rfl rfl (by rfl) ⟨?_, fun W hW => ?_, ?_⟩; rotate_left; (· (have d0 := hW.keeps.cell id e0; have d1 := hW.keeps.cell id e1; have d2 := hW.keeps.cell id e2; have d3 := hW.keeps.cell id e3; have d4 := hW.keeps.cell id e4; have d5 := hW.keeps.cell id f0; have d6 := hW.keeps.cell id f1; have d7 := hW.keeps.cell id f2; have d8 := hW.keeps.cell id f3; have d9 := hW.keeps.cell id f4; have d10 := hW.keeps.cell id f5; go_simp; (try with_reducible rfl)))); (try simp only [Act.put, List.setIfInBounds_toArray, List.set_cons_zero, List.set_cons_succ])))
  refine run_chain rfl rfl (by rfl) (fun Wi hWi K' hK => ?_)
  have HTi := Lib.hid (HT.out.trans hWi)
  have HZW := Lib.hid HTi.out.size
  clear hWi HT
  go_simp
  refine (House_any _ h _ _ ⟨_, rfl, Rep.keep (.of_step HTi.out) HR.out⟩ HFEW.out).mono ?_
  rintro e wn ⟨v1a, rfl, hv1, hSn⟩
  have HT := Lib.hid (HTi.out.trans (StepX.of hSn))
  clear HTi
  have HV1 := Lib.hid (AV.triv hv1)
  clear hv1
  refine hK _ _ (StepX.of hSn) ?_
  clear hSn
  (try simp only [Act.put, List.setIfInBounds_toArray, List.set_cons_zero, List.set_cons_succ])
  repeat (first | (refine run_off rfl rfl (by rfl) ?_; (try simp only [Act.put, List.setIfInBounds_toArray, List.set_cons_zero, List.set_cons_succ])) | (refine run_chain_off rfl rfl (by rfl) (K0_mono _) ?_; (try simp only [Act.put, List.setIfInBounds_toArray, List.set_cons_zero, List.set_cons_succ])) | ((refine run_want rfl rfl (by rfl) ⟨?_, fun W hW => ?_, ?_⟩; rotate_left; (· (skip; go_simp; (try with_reducible rfl)))); (try simp only [Act.put, List.setIfInBounds_toArray, List.set_cons_zero, List.set_cons_succ])))
  refine run_chain rfl rfl (by rfl) (fun Wi hWi K' hK => ?_)
  have HTi := Lib.hid (HT.out.trans hWi)
  have HV1i := Lib.hid (HV1.out.keep (.of_step hWi))
  clear hWi HT HV1
  go_simp
  refine (Book_any _ b _ _ ⟨_, rfl, Rep.keep (.of_step HTi.out) HQ.out⟩ HTHIN.out).mono ?_
  rintro e wn2 ⟨v2a, rfl, hv2, hSn⟩
  have HV2 := Lib.hid (AV.triv hv2)
  have HV1 := Lib.hid (HV1i.out.keep (.of_step hSn))
  have HT := Lib.hid (HTi.out.trans hSn)
  clear hv2 HV1i HTi
  refine hK _ _ (StepX.of hSn) ?_
  clear hSn hK
  (try simp only [Act.put, List.setIfInBounds_toArray, List.set_cons_zero, List.set_cons_succ])
  repeat (first | (refine run_off rfl rfl (by rfl) ?_; (try simp only [Act.put, List.setIfInBounds_toArray, List.set_cons_zero, List.set_cons_succ])) | (refine run_chain_off rfl rfl (by rfl) (K0_mono _) ?_; (try simp only [Act.put, List.setIfInBounds_toArray, List.set_cons_zero, List.set_cons_succ])) | ((refine run_want rfl rfl (by rfl) ⟨?_, fun W hW => ?_, ?_⟩; rotate_left; (· (skip; go_simp; (try with_reducible rfl)))); (try simp only [Act.put, List.setIfInBounds_toArray, List.set_cons_zero, List.set_cons_succ])))
  refine run_chain rfl rfl (by rfl) (fun Wi hWi K' hK => ?_)
  have HTi := Lib.hid (HT.out.trans hWi)
  have HV1i := Lib.hid (HV1.out.keep (.of_step hWi))
  have HV2i := Lib.hid (HV2.out.keep (.of_step hWi))
  clear hWi HT HV1 HV2
  go_simp
  refine (Sell_any _ h b _ _ s n y d _ HV1i.out HV2i.out).mono ?_
  rintro e w6 ⟨v6, rfl, hv6, hS6⟩
  obtain ⟨xa, hxa⟩ : ∃ x, x = (actR (doneR h b (sellD h b s n y d))).1 := ⟨_, rfl⟩
  obtain ⟨ea, hea⟩ : ∃ x, x = (actR (doneR h b (sellD h b s n y d))).2 := ⟨_, rfl⟩
  rw [← hxa] at hv6
  rw [← hea]
  have HXA := Lib.hid hxa
  have HEA := Lib.hid hea
  clear hxa hea
  obtain ⟨x1, x2, x4, rfl, t1, t2, t4⟩ := hv6.book
  obtain ⟨raa, naa, rfl⟩ := t1.form
  obtain ⟨rba, nba, rfl⟩ := t2.form
  obtain ⟨rca, nca, rfl⟩ := t4.form
  have HV6 := Lib.hid hv6
  have HT := Lib.hid (HTi.out.trans hS6)
  clear t1 t2 t4 hv6 HTi HV1i HV2i
  refine hK _ _ hS6 ?_
  clear hS6 hK
  (try simp only [Act.put, List.setIfInBounds_toArray, List.set_cons_zero, List.set_cons_succ])
  repeat (first | (refine run_off rfl rfl (by rfl) ?_; (try simp only [Act.put, List.setIfInBounds_toArray, List.set_cons_zero, List.set_cons_succ])) | (refine run_chain_off rfl rfl (by rfl) (K0_mono _) ?_; (try simp only [Act.put, List.setIfInBounds_toArray, List.set_cons_zero, List.set_cons_succ])) | ((refine run_want rfl rfl (by rfl) ⟨?_, fun W hW => ?_, ?_⟩; rotate_left; (· (skip; go_simp; (try with_reducible rfl)))); (try simp only [Act.put, List.setIfInBounds_toArray, List.set_cons_zero, List.set_cons_succ])))
  refine run_alloc rfl rfl (fun W5 ga hW5 hg hgb hgN => ?_)
  (try simp only [Act.put, List.setIfInBounds_toArray, List.set_cons_zero, List.set_cons_succ])
  refine run_end (L := [_, _]) rfl (fun W6 hW6 => ?_)
  have hb6 := Bx.step (w := W5) (cs := [_, _, _, _, _, _]) hg hW6
  refine wpl_store (v := .agg #[.int .i64 (xa).agency, .slice raa (xa).seats.length naa, .slice rba (xa).off.length nba, .int .i64 (xa).sent, .slice rca (xa).took.length nca, .int .i64 (xa).cash]) rfl _ _ _ rfl rfl rfl hb6 (by kernel_rfl) (by simp [Value.cells]) (by simp [Value.cells, Value.oneCell']) [.int .i64 (xa).agency, .slice raa (xa).seats.length naa, .slice rba (xa).off.length nba, .int .i64 (xa).sent, .slice rca (xa).took.length nca, .int .i64 (xa).cash] rfl (fun w7 hb7 hw7 => ?_)
  have hg0 := HSZ0.out
  have hk7 : Keeps (fun j => j = ga) w6 w7 := (Keeps.of_step (hW5.trans hW6)).trans (.wrote hw7 rfl)
  have HVXa := Lib.hid (AV.triv (AV.later (S := fun j => j = ga) (w' := w7) HV6.out (fun j hj hs => by omega) hk7))
  have HTx := Lib.hid (Step.wrote ((HT.out.trans hW5).trans hW6) hw7 (by omega))
  have HBXa := Lib.hid hb7
  clear hW5 hg hgb hgN hW6 hb6 hb7 hw7 hk7 HV6 HT hg0 HSZ0
  have HT := HTx
  clear HTx
  have hb1 := HB1.out.step HT.out
  have hb2 := HB2.out.step HT.out
  have hr1 := Rep.keep (S := fun _ => False) (.of_step HT.out) HR.out
  have hq1 := Rep.keep (S := fun _ => False) (.of_step HT.out) HQ.out
  have hs1 := HS.out.trans HT.out
  clear HB1 HB2 HR HQ HS HT
  have HB1 := Lib.hid hb1
  have HB2 := Lib.hid hb2
  have HR := Lib.hid hr1
  have HQ := Lib.hid hq1
  have HS := Lib.hid hs1
  have HT := Lib.hid (Step.refl w7)
  clear hb1 hb2 hr1 hq1 hs1
  go_upto_region 4 with (fail)
  have HSZ0 := Lib.hid (HT.out.size)
  have hwq := HT.out
  refine wp_region_seqM (fun c d v a w h => by cases d <;> exact h) (kdOf [1, 3, 6] [(10, 36, .agg #[.int .i64 0, .slice none 0 0, .slice none 0 0, .int .i64 0, .slice none 0 0, .int .i64 0])]) [0, 1, 0, 7, 0, 0, 63, 127, 255, 255, 0, 1535, 4095] [0, 2, 4, 5, 1, 3, 6, 7, 8, 9, 10] [11, 12] (by kernel_rfl) (by kernel_rfl) (fun i T z hi hk => by simp only [List.mem_cons, List.not_mem_nil, or_false] at hi; rcases hi with rfl | rfl | rfl | rfl | rfl | rfl | rfl | rfl | rfl | rfl | rfl <;> simp [kdOf] at hk <;> (obtain ⟨rfl, rfl⟩ := hk; first | (show Option.bind _ _ = some _; kernel_rfl) | (refine ⟨_, rfl, fun _ _ => ?_⟩; go_simp))) ?_
  intro Wx hWx
  have HTx := Lib.hid (hwq.trans hWx)
  clear hWx hwq HT
  have HT := HTx
  clear HTx
  (try clear e0 e1 e2 e3 e4 f0 f1 f2 f3 f4 f5 y1 y2)
  obtain ⟨e0, e1, e2, e3, e4⟩ := cells5 (HB1.out.step HT.out)
  obtain ⟨f0, f1, f2, f3, f4, f5⟩ := cells6 (HB2.out.step HT.out)
  have y1 := (HB1.out.step HT.out).lt
  have y2 := (HB2.out.step HT.out).lt
  repeat (first | (refine run_off rfl rfl (by rfl) ?_; (try simp only [Act.put, List.setIfInBounds_toArray, List.set_cons_zero, List.set_cons_succ])) | (refine run_chain_off rfl rfl (by rfl) (K0_mono _) ?_; (try simp only [Act.put, List.setIfInBounds_toArray, List.set_cons_zero, List.set_cons_succ])) | ((refine run_want rfl rfl (by rfl) ⟨?_, fun W hW => ?_, ?_⟩; rotate_left; (· (have d0 := hW.keeps.cell id e0; have d1 := hW.keeps.cell id e1; have d2 := hW.keeps.cell id e2; have d3 := hW.keeps.cell id e3; have d4 := hW.keeps.cell id e4; have d5 := hW.keeps.cell id f0; have d6 := hW.keeps.cell id f1; have d7 := hW.keeps.cell id f2; have d8 := hW.keeps.cell id f3; have d9 := hW.keeps.cell id f4; have d10 := hW.keeps.cell id f5; go_simp; (try with_reducible rfl)))); (try simp only [Act.put, List.setIfInBounds_toArray, List.set_cons_zero, List.set_cons_succ])))
  refine run_chain rfl rfl (by rfl) (fun Wi hWi K' hK => ?_)
  have HTi := Lib.hid (HT.out.trans hWi)
  have HZW := Lib.hid HTi.out.size
  clear hWi HT
  go_simp
  refine (House_any _ h _ _ ⟨_, rfl, Rep.keep (.of_step HTi.out) HR.out⟩ HFEW.out).mono ?_
  rintro e wn ⟨v1b, rfl, hv1, hSn⟩
  have HT := Lib.hid (HTi.out.trans (StepX.of hSn))
  clear HTi
  have HV1 := Lib.hid (AV.triv hv1)
  clear hv1
  refine hK _ _ (StepX.of hSn) ?_
  clear hSn
  (try simp only [Act.put, List.setIfInBounds_toArray, List.set_cons_zero, List.set_cons_succ])
  repeat (first | (refine run_off rfl rfl (by rfl) ?_; (try simp only [Act.put, List.setIfInBounds_toArray, List.set_cons_zero, List.set_cons_succ])) | (refine run_chain_off rfl rfl (by rfl) (K0_mono _) ?_; (try simp only [Act.put, List.setIfInBounds_toArray, List.set_cons_zero, List.set_cons_succ])) | ((refine run_want rfl rfl (by rfl) ⟨?_, fun W hW => ?_, ?_⟩; rotate_left; (· (skip; go_simp; (try with_reducible rfl)))); (try simp only [Act.put, List.setIfInBounds_toArray, List.set_cons_zero, List.set_cons_succ])))
  refine run_chain rfl rfl (by rfl) (fun Wi hWi K' hK => ?_)
  have HTi := Lib.hid (HT.out.trans hWi)
  have HV1i := Lib.hid (HV1.out.keep (.of_step hWi))
  clear hWi HT HV1
  go_simp
  refine (Book_any _ b _ _ ⟨_, rfl, Rep.keep (.of_step HTi.out) HQ.out⟩ HTHIN.out).mono ?_
  rintro e wn2 ⟨v2b, rfl, hv2, hSn⟩
  have HV2 := Lib.hid (AV.triv hv2)
  have HV1 := Lib.hid (HV1i.out.keep (.of_step hSn))
  have HT := Lib.hid (HTi.out.trans hSn)
  clear hv2 HV1i HTi
  refine hK _ _ (StepX.of hSn) ?_
  clear hSn hK
  (try simp only [Act.put, List.setIfInBounds_toArray, List.set_cons_zero, List.set_cons_succ])
  repeat (first | (refine run_off rfl rfl (by rfl) ?_; (try simp only [Act.put, List.setIfInBounds_toArray, List.set_cons_zero, List.set_cons_succ])) | (refine run_chain_off rfl rfl (by rfl) (K0_mono _) ?_; (try simp only [Act.put, List.setIfInBounds_toArray, List.set_cons_zero, List.set_cons_succ])) | ((refine run_want rfl rfl (by rfl) ⟨?_, fun W hW => ?_, ?_⟩; rotate_left; (· (skip; go_simp; (try with_reducible rfl)))); (try simp only [Act.put, List.setIfInBounds_toArray, List.set_cons_zero, List.set_cons_succ])))
  refine run_chain rfl rfl (by rfl) (fun Wi hWi K' hK => ?_)
  have HTi := Lib.hid (HT.out.trans hWi)
  have HV1i := Lib.hid (HV1.out.keep (.of_step hWi))
  have HV2i := Lib.hid (HV2.out.keep (.of_step hWi))
  clear hWi HT HV1 HV2
  go_simp
  refine (Refund_any _ h b _ _ s n _ HV1i.out HV2i.out).mono ?_
  rintro e w6 ⟨v6, rfl, hv6, hS6⟩
  obtain ⟨xb, hxb⟩ : ∃ x, x = (actR (doneR h b (refundD h b s n))).1 := ⟨_, rfl⟩
  obtain ⟨eb, heb⟩ : ∃ x, x = (actR (doneR h b (refundD h b s n))).2 := ⟨_, rfl⟩
  rw [← hxb] at hv6
  rw [← heb]
  have HXB := Lib.hid hxb
  have HEB := Lib.hid heb
  clear hxb heb
  obtain ⟨w7a, hw7a⟩ : ∃ W, W = w7 := ⟨_, rfl⟩
  subst hw7a
  obtain ⟨x1, x2, x4, rfl, t1, t2, t4⟩ := hv6.book
  obtain ⟨rab, nab, rfl⟩ := t1.form
  obtain ⟨rbb, nbb, rfl⟩ := t2.form
  obtain ⟨rcb, ncb, rfl⟩ := t4.form
  have HV6 := Lib.hid hv6
  have HT := Lib.hid (HTi.out.trans hS6)
  clear t1 t2 t4 hv6 HTi HV1i HV2i
  refine hK _ _ hS6 ?_
  clear hS6 hK
  (try simp only [Act.put, List.setIfInBounds_toArray, List.set_cons_zero, List.set_cons_succ])
  repeat (first | (refine run_off rfl rfl (by rfl) ?_; (try simp only [Act.put, List.setIfInBounds_toArray, List.set_cons_zero, List.set_cons_succ])) | (refine run_chain_off rfl rfl (by rfl) (K0_mono _) ?_; (try simp only [Act.put, List.setIfInBounds_toArray, List.set_cons_zero, List.set_cons_succ])) | ((refine run_want rfl rfl (by rfl) ⟨?_, fun W hW => ?_, ?_⟩; rotate_left; (· (skip; go_simp; (try with_reducible rfl)))); (try simp only [Act.put, List.setIfInBounds_toArray, List.set_cons_zero, List.set_cons_succ])))
  refine run_alloc rfl rfl (fun W5 gb hW5 hg hgb hgN => ?_)
  (try simp only [Act.put, List.setIfInBounds_toArray, List.set_cons_zero, List.set_cons_succ])
  refine run_end (L := [_, _]) rfl (fun W6 hW6 => ?_)
  have hb6 := Bx.step (w := W5) (cs := [_, _, _, _, _, _]) hg hW6
  refine wpl_store (v := .agg #[.int .i64 (xb).agency, .slice rab (xb).seats.length nab, .slice rbb (xb).off.length nbb, .int .i64 (xb).sent, .slice rcb (xb).took.length ncb, .int .i64 (xb).cash]) rfl _ _ _ rfl rfl rfl hb6 (by kernel_rfl) (by simp [Value.cells]) (by simp [Value.cells, Value.oneCell']) [.int .i64 (xb).agency, .slice rab (xb).seats.length nab, .slice rbb (xb).off.length nbb, .int .i64 (xb).sent, .slice rcb (xb).took.length ncb, .int .i64 (xb).cash] rfl (fun w7 hb7 hw7 => ?_)
  have hg0 := HSZ0.out
  have hk7 : Keeps (fun j => j = gb) w6 w7 := (Keeps.of_step (hW5.trans hW6)).trans (.wrote hw7 rfl)
  have HVXb := Lib.hid (AV.triv (AV.later (S := fun j => j = gb) (w' := w7) HV6.out (fun j hj hs => by omega) hk7))
  have HTx := Lib.hid (Step.wrote ((HT.out.trans hW5).trans hW6) hw7 (by omega))
  have HBXb := Lib.hid hb7
  clear hW5 hg hgb hgN hW6 hb6 hb7 hw7 hk7 HV6 HT hg0 HSZ0
  have HT := HTx
  clear HTx
  have HBXa := Lib.hid (HBXa.out.step HT.out)
  have HVXa := Lib.hid (HVXa.out.keep (.of_step HT.out))
  have hb1 := HB1.out.step HT.out
  have hb2 := HB2.out.step HT.out
  have hr1 := Rep.keep (S := fun _ => False) (.of_step HT.out) HR.out
  have hq1 := Rep.keep (S := fun _ => False) (.of_step HT.out) HQ.out
  have hs1 := HS.out.trans HT.out
  clear HB1 HB2 HR HQ HS HT
  have HB1 := Lib.hid hb1
  have HB2 := Lib.hid hb2
  have HR := Lib.hid hr1
  have HQ := Lib.hid hq1
  have HS := Lib.hid hs1
  have HT := Lib.hid (Step.refl w7)
  clear hb1 hb2 hr1 hq1 hs1
  go_upto_region 5 with (fail)
  (try clear e0 e1 e2 e3 e4 f0 f1 f2 f3 f4 f5 y1 y2)
  obtain ⟨e0, e1, e2, e3, e4⟩ := cells5 (HB1.out.step HT.out)
  obtain ⟨f0, f1, f2, f3, f4, f5⟩ := cells6 (HB2.out.step HT.out)
  have y1 := (HB1.out.step HT.out).lt
  have y2 := (HB2.out.step HT.out).lt
  go_wp2_with fail
  refine (wrong_any (fun _ => False) h b _ _ _ ⟨_, rfl, Rep.keep (.of_step HT.out) HR.out⟩ ⟨_, rfl, Rep.keep (.of_step HT.out) HQ.out⟩).mono ?_
  rintro e wn3 ⟨rfl, hSn⟩
  have HTn := Lib.hid (HT.out.trans hSn)
  clear hSn HT
  have HT := HTn
  clear HTn
  (try clear e0 e1 e2 e3 e4 f0 f1 f2 f3 f4 f5 y1 y2)
  cases qw : wrongB h b with
  | true =>
    obtain rfl : xa = noBook := by rw [HXA.out, done_gate qw]; rfl
    obtain rfl : ea = 1 := by rw [HEA.out, done_gate qw]; rfl
    obtain rfl : xb = noBook := by rw [HXB.out, done_gate qw]; rfl
    obtain rfl : eb = 1 := by rw [HEB.out, done_gate qw]; rfl
    clear qw HXA HEA HXB HEB
    obtain ⟨g0, g1, g2, g3, g4, g5⟩ := cells6 (HBXa.out.step HT.out)
    go_wp2_with fail
    refine (empty_any _ noBook _ _ (HVXa.out.keep (.of_step HT.out))).mono ?_
    rintro e wn4 ⟨rfl, hSn⟩
    rw [alike_self]
    have HTn := Lib.hid (HT.out.trans hSn)
    clear hSn HT
    have HT := HTn
    clear HTn
    clear g0 g1 g2 g3 g4 g5
    obtain ⟨g0, g1, g2, g3, g4, g5⟩ := cells6 (HBXb.out.step HT.out)
    go_wp2_with fail
    refine (empty_any _ noBook _ _ (HVXb.out.keep (.of_step HT.out))).mono ?_
    rintro e wn5 ⟨rfl, hSn⟩
    rw [alike_self]
    have HTn := Lib.hid (HT.out.trans hSn)
    clear hSn HT
    have HT := HTn
    clear HTn
    go_wp2_with fail
    refine (awake_any _).mono ?_
    rintro e wz ⟨rfl, hSz⟩
    go_wp2
    go_ret
    exact ⟨rfl, HS.out.trans (HT.out.trans hSz)⟩
  | false =>
    obtain ⟨hvalid, hbook⟩ := wrong_no qw
    have hxe : xa = (actR (sellD h b s n y d)).1 := by rw [HXA.out, done_right qw]
    have hee : ea = (actR (sellD h b s n y d)).2 := by rw [HEA.out, done_right qw]
    have hxf : xb = (actR (refundD h b s n)).1 := by rw [HXB.out, done_right qw]
    have hef : eb = (actR (refundD h b s n)).2 := by rw [HEB.out, done_right qw]
    have HTA := Lib.hid (show thinP xa by rw [hxe]; exact thin_sell HTHIN.out s n y d)
    have HTB := Lib.hid (show thinP xb by rw [hxf]; exact thin_refund HTHIN.out s n)
    have HXE := Lib.hid hxe
    have HEE := Lib.hid hee
    have HXF := Lib.hid hxf
    have HEF := Lib.hid hef
    have HVAL := Lib.hid (And.intro hvalid hbook)
    clear qw HXA HEA HXB HEB hxe hee hxf hef hvalid hbook
    (try clear e0 e1 e2 e3 e4 f0 f1 f2 f3 f4 f5 y1 y2)
    obtain ⟨e0, e1, e2, e3, e4⟩ := cells5 (HB1.out.step HT.out)
    obtain ⟨f0, f1, f2, f3, f4, f5⟩ := cells6 (HB2.out.step HT.out)
    have y1 := (HB1.out.step HT.out).lt
    have y2 := (HB2.out.step HT.out).lt
    go_wp2_with fail
    refine (RSell_any (fun _ => False) h b _ _ s n y d _ ⟨_, rfl, Rep.keep (.of_step HT.out) HR.out⟩ ⟨_, rfl, Rep.keep (.of_step HT.out) HQ.out⟩ HVAL.out.1 HVAL.out.2).mono ?_
    rintro e wn4 ⟨v8, rfl, hv8, hSn⟩
    rw [← HXE.out] at hv8
    rw [← HEE.out]
    obtain ⟨x1, x2, x4, rfl, t1, t2, t4⟩ := hv8.book
    obtain ⟨rac, nac, rfl⟩ := t1.form
    obtain ⟨rbc, nbc, rfl⟩ := t2.form
    obtain ⟨rcc, ncc, rfl⟩ := t4.form
    have HV8 := Lib.hid (AV.triv hv8)
    have HTi := Lib.hid (HT.out.trans hSn)
    clear hSn HT t1 t2 t4 hv8
    have HT := HTi
    clear HTi
    (try clear e0 e1 e2 e3 e4 f0 f1 f2 f3 f4 f5 y1 y2)
    go_upto_region 8 with (fail)
    have hbP := Bx.new wn4 [.int .i64 (xa).agency, .slice rac (xa).seats.length nac, .slice rbc (xa).off.length nbc, .int .i64 (xa).sent, .slice rcc (xa).took.length ncc, .int .i64 (xa).cash] 30
    have hsA := Step.alloc wn4 (.cells #[.int .i64 (xa).agency, .slice rac (xa).seats.length nac, .slice rbc (xa).off.length nbc, .int .i64 (xa).sent, .slice rcc (xa).took.length ncc, .int .i64 (xa).cash] 30)
    have HVXc := Lib.hid (HV8.out.keep (.of_step hsA))
    have HTx := Lib.hid (HT.out.trans hsA)
    have HBXc := Lib.hid hbP
    clear hsA HT HV8 hbP
    have HT := HTx
    clear HTx
    generalize wn4.alloc (.cells #[.int .i64 (xa).agency, .slice rac (xa).seats.length nac, .slice rbc (xa).off.length nbc, .int .i64 (xa).sent, .slice rcc (xa).took.length ncc, .int .i64 (xa).cash] 30) = wrc at *
    generalize wn4.heap.size = gc at *
    have HBXa := Lib.hid (HBXa.out.step HT.out)
    have HVXa := Lib.hid (HVXa.out.keep (.of_step HT.out))
    have HBXb := Lib.hid (HBXb.out.step HT.out)
    have HVXb := Lib.hid (HVXb.out.keep (.of_step HT.out))
    have hb1 := HB1.out.step HT.out
    have hb2 := HB2.out.step HT.out
    have hr1 := Rep.keep (S := fun _ => False) (.of_step HT.out) HR.out
    have hq1 := Rep.keep (S := fun _ => False) (.of_step HT.out) HQ.out
    have hs1 := HS.out.trans HT.out
    clear HB1 HB2 HR HQ HS HT
    have HB1 := Lib.hid hb1
    have HB2 := Lib.hid hb2
    have HR := Lib.hid hr1
    have HQ := Lib.hid hq1
    have HS := Lib.hid hs1
    have HT := Lib.hid (Step.refl wrc)
    clear hb1 hb2 hr1 hq1 hs1
    (try clear e0 e1 e2 e3 e4 f0 f1 f2 f3 f4 f5 y1 y2)
    obtain ⟨e0, e1, e2, e3, e4⟩ := cells5 (HB1.out.step HT.out)
    obtain ⟨f0, f1, f2, f3, f4, f5⟩ := cells6 (HB2.out.step HT.out)
    have y1 := (HB1.out.step HT.out).lt
    have y2 := (HB2.out.step HT.out).lt
    go_wp2_with fail
    refine (RRefund_any (fun _ => False) h b _ _ s n _ ⟨_, rfl, Rep.keep (.of_step HT.out) HR.out⟩ ⟨_, rfl, Rep.keep (.of_step HT.out) HQ.out⟩ HVAL.out.1 HVAL.out.2).mono ?_
    rintro e wn4 ⟨v8, rfl, hv8, hSn⟩
    rw [← HXF.out] at hv8
    rw [← HEF.out]
    obtain ⟨x1, x2, x4, rfl, t1, t2, t4⟩ := hv8.book
    obtain ⟨rad, nad, rfl⟩ := t1.form
    obtain ⟨rbd, nbd, rfl⟩ := t2.form
    obtain ⟨rcd, ncd, rfl⟩ := t4.form
    have HV8 := Lib.hid (AV.triv hv8)
    have HTi := Lib.hid (HT.out.trans hSn)
    clear hSn HT t1 t2 t4 hv8
    have HT := HTi
    clear HTi
    (try clear e0 e1 e2 e3 e4 f0 f1 f2 f3 f4 f5 y1 y2)
    go_upto_region 9 with (fail)
    have hbP := Bx.new wn4 [.int .i64 (xb).agency, .slice rad (xb).seats.length nad, .slice rbd (xb).off.length nbd, .int .i64 (xb).sent, .slice rcd (xb).took.length ncd, .int .i64 (xb).cash] 30
    have hsA := Step.alloc wn4 (.cells #[.int .i64 (xb).agency, .slice rad (xb).seats.length nad, .slice rbd (xb).off.length nbd, .int .i64 (xb).sent, .slice rcd (xb).took.length ncd, .int .i64 (xb).cash] 30)
    have HVXd := Lib.hid (HV8.out.keep (.of_step hsA))
    have HTx := Lib.hid (HT.out.trans hsA)
    have HBXd := Lib.hid hbP
    clear hsA HT HV8 hbP
    have HT := HTx
    clear HTx
    generalize wn4.alloc (.cells #[.int .i64 (xb).agency, .slice rad (xb).seats.length nad, .slice rbd (xb).off.length nbd, .int .i64 (xb).sent, .slice rcd (xb).took.length ncd, .int .i64 (xb).cash] 30) = wrd at *
    generalize wn4.heap.size = gd at *
    have hne1 : (ea == ea) = true := by simp
    have hne2 : (eb == eb) = true := by simp
    obtain ⟨g0, g1, g2, g3, g4, g5⟩ := cells6 (HBXa.out.step HT.out)
    obtain ⟨z0, z1, z2, z3, z4, z5⟩ := cells6 (HBXc.out.step HT.out)
    go_wp2_with fail
    refine (same_any _ xa xa _ _ _ (HVXa.out.keep (.of_step HT.out)) (HVXc.out.keep (.of_step HT.out)) HTA.out).mono ?_
    rintro e wn6 ⟨rfl, hSn⟩
    rw [alike_self]
    have HBXd := Lib.hid (HBXd.out.step hSn)
    have HVXd := Lib.hid (HVXd.out.keep (.of_step hSn))
    have HTn := Lib.hid (HT.out.trans hSn)
    clear hSn HT
    have HT := HTn
    clear HTn
    clear g0 g1 g2 g3 g4 g5 z0 z1 z2 z3 z4 z5
    obtain ⟨g0, g1, g2, g3, g4, g5⟩ := cells6 (HBXb.out.step HT.out)
    obtain ⟨z0, z1, z2, z3, z4, z5⟩ := cells6 HBXd.out
    go_wp2_with fail
    refine (same_any _ xb xb _ _ _ (HVXb.out.keep (.of_step HT.out)) HVXd.out HTB.out).mono ?_
    rintro e wn7 ⟨rfl, hSn⟩
    rw [alike_self]
    have HTn := Lib.hid (HT.out.trans hSn)
    clear hSn HT
    have HT := HTn
    clear HTn
    go_wp2_with fail
    refine (awake_any _).mono ?_
    rintro e wz ⟨rfl, hSz⟩
    go_wp2
    go_ret
    exact ⟨rfl, HS.out.trans (HT.out.trans hSz)⟩
end Go.Proofs.Ytbgfmikbhiblgaa
