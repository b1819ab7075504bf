/- TicketGives holds of every input, and its arguments read afterwards as they did. -/
import Derived.Test.YtbgfmikbhiblgaaMr
import Derived.Test.YtbgfmikbhiblgaaMu
import Derived.Test.YtbgfmikbhiblgaaMv
import Derived.Test.YtbgfmikbhiblgaaMw
import Derived.Test.YtbgfmikbhiblgaaRows
/- Walks: the law TicketGives: it answers true. -/
namespace Go.Proofs.Ytbgfmikbhiblgaa
set_option linter.unusedSimpArgs false
set_option linter.unusedVariables false
open Go.RowKit Go.BT

theorem mess_self (m : BT.Message) : messB m m = true := by simp [messB]
theorem thin_like {b b' : Book} {q : Int} (ht : thinP b) (hl : Like b b' q) (hk : b'.took.length ≤ 1000000) : thinP b' :=
  ⟨by rw [hl.seats]; exact ht.1, fun k hk => by rw [hl.row k (by rw [← hl.seats]; exact hk) hk]; exact ht.2.1 k _, by rw [hl.off]; exact ht.2.2.1, hk⟩
theorem giveTo_took (b : Book) (i : Nat) : ∀ l : List Int, (giveTo b i l).took = b.took := by
  intro l
  unfold giveTo
  induction l generalizing b with
  | nil => rfl
  | cons j l ih => rw [List.foldl_cons, ih]; rfl
theorem thin_give {h : House} {b : Book} (ht : thinP b) (t s : Int) (l : List Int) : thinP (actR (bookOf (giveD h b t s l))).1 := by
  unfold giveD
  split
  · have h1 : thinP (giveTo b s.toNat l) := thin_like ht (like_give b s.toNat l) (by rw [giveTo_took]; exact ht.2.2.2)
    exact h1
  · exact noBook_thin
theorem thin_take {h : House} {b : Book} (ht : thinP b) (m : BT.Message) : thinP (actR (takeD h b m)).1 := by
  unfold takeD
  split
  · rename_i he
    have hk : b.took.length < 1000 := by
      unfold takeE at he
      by_cases h9 : 1000 ≤ b.took.length
      · rw [if_pos h9] at he
        split at he
        · simp at he
        split at he
        · simp at he
        split at he
        · simp at he
        split at he
        · simp at he
        · simp at he
      · omega
    have h1 : thinP (takeTo b m.shw.toNat m.seats) := thin_like ht (like_take b m.shw.toNat m.seats) (by rw [takeTo_took]; exact ht.2.2.2)
    exact ⟨h1.1, h1.2.1, h1.2.2.1, by show (b.took ++ [keyOf m]).length ≤ 1000000; simp; omega⟩
  · exact noBook_thin
set_option maxRecDepth 100000 in
set_option maxHeartbeats 8000000 in
theorem TicketGives_any (h : House) (b : Book) (t s : Int) (l : List Int) (m : BT.Message) (v u x y : Value) (w : World) (hv : AV (fun _ => False) w v h) (hu : AV (fun _ => False) w u b) (hx : SL (fun _ => False) w x l) (hy : AV (fun _ => False) w y m) :
    Calls Try.prog 6 #[v, u, .int .i64 t, .int .i64 s, x, y] w fun e w' => e = .returned (.bool true) ∧ Step w w' := by
  obtain ⟨cs, rfl, hr0⟩ := hv
  have hr := hr0
  obtain ⟨c0, c1, c2, c3, c4, rfl, h0, h1, h2, h3, h4⟩ := hr
  obtain ⟨p0, k0, rfl⟩ := h0.form
  obtain ⟨p1, k1, rfl⟩ := h1.form
  obtain ⟨p2, k2, rfl⟩ := h2.form
  obtain ⟨p3, k3, rfl⟩ := h3.form
  obtain ⟨p4, k4, rfl⟩ := h4.form
  obtain ⟨cs, rfl, hq0⟩ := hu
  have hq := hq0
  obtain ⟨d1, d2, d4, rfl, s1, s2, s4⟩ := hq
  obtain ⟨q1, m1, rfl⟩ := s1.form
  obtain ⟨q2, m2, rfl⟩ := s2.form
  obtain ⟨q4, m4, rfl⟩ := s4.form
  obtain ⟨pl, cl, rfl⟩ := hx.form
  obtain ⟨mf, md, mn, ms, ml⟩ := m
  obtain ⟨mc, rfl, hms⟩ := hy.message
  dsimp only at hms
  obtain ⟨pm, cm, rfl⟩ := hms.form
  obtain ⟨W2, hW2⟩ : ∃ W2, W2 = ((w.alloc (.cells #[.slice p0 h.sectors.length k0, .slice p1 h.prices.length k1, .slice p2 h.dates.length k2, .slice p3 h.frm.length k3, .slice p4 h.holds.length k4] 26)).alloc (.cells #[.int .i64 b.agency, .slice q1 b.seats.length m1, .slice q2 b.off.length m2, .int .i64 b.sent, .slice q4 b.took.length m4, .int .i64 b.cash] 30)).alloc (.cells #[.int .i64 mf, .int .i64 md, .int .i64 mn, .int .i64 ms, .slice pm ml.length cm] 73) := ⟨_, rfl⟩
  have hbx : Bx W2 w.heap.size [.slice p0 h.sectors.length k0, .slice p1 h.prices.length k1, .slice p2 h.dates.length k2, .slice p3 h.frm.length k3, .slice p4 h.holds.length k4] 26 := by subst hW2; exact ((Bx.new _ _ _).alloc _).alloc _
  have hb2 : Bx W2 (w.heap.size + 1) [.int .i64 b.agency, .slice q1 b.seats.length m1, .slice q2 b.off.length m2, .int .i64 b.sent, .slice q4 b.took.length m4, .int .i64 b.cash] 30 := by subst hW2; exact (Bx.new' _ _ _ _ (by simp)).alloc _
  have hbm : Bx W2 (w.heap.size + 2) [.int .i64 mf, .int .i64 md, .int .i64 mn, .int .i64 ms, .slice pm ml.length cm] 73 := by subst hW2; exact Bx.new' _ [_, _, _, _, _] _ _ (by simp)
  have hS : Step w W2 := by subst hW2; exact (by repeat (first | (with_reducible assumption) | (with_reducible exact Step.refl _) | (with_reducible apply Step.s_alloc) | (with_reducible apply Step.s_drew) | (with_reducible apply Step.s_drewN) | (with_reducible refine Step.trans ?_ (by with_reducible assumption))))
  have HB1 := Lib.hid hbx
  have HB2 := Lib.hid hb2
  have HR := Lib.hid (Rep.keep (.of_step hS) hr0)
  have HQ := Lib.hid (Rep.keep (.of_step hS) hq0)
  have HBM := Lib.hid hbm
  have HMS := Lib.hid (AV.keep (.of_step hS) hy)
  have HLS := Lib.hid (SL.keep (.of_step hS) hx)
  have HS := Lib.hid hS
  have HT := Lib.hid (Step.refl W2)
  have HW := Lib.hid hW2
  clear hx hy hms hbm hr0 hq0 h0 h1 h2 h3 h4 s1 s2 s4 hbx hb2 hS hW2
  go_enter Try.func6, Try.ntmps6
  go_wp2_with fail
  rw [show w.heap.size + 1 + 1 = w.heap.size + 2 from rfl, ← HW.out]
  refine (Few_any (fun _ => False) h _ _ ⟨_, rfl, HR.out⟩).mono ?_
  rintro e wn ⟨rfl, hSn⟩
  have HTi := Lib.hid (HT.out.trans hSn)
  clear hSn HT
  have HT := HTi
  clear HTi
  (try clear e0 e1 e2 e3 e4 f0 f1 f2 f3 f4 f5 y1 y2)
  obtain ⟨e0, e1, e2, e3, e4⟩ := cells5 (HB1.out.step HT.out)
  obtain ⟨f0, f1, f2, f3, f4, f5⟩ := cells6 (HB2.out.step HT.out)
  have y1 := (HB1.out.step HT.out).lt
  have y2 := (HB2.out.step HT.out).lt
  cases qf : few h with
  | false =>
    clear qf
    go_wp2_with fail
    refine (awake_any _).mono ?_
    rintro e wz ⟨rfl, hSz⟩
    go_wp2
    go_ret
    exact ⟨rfl, HS.out.trans (HT.out.trans hSz)⟩
  | true =>
  have HFEW := Lib.hid (fewB_of qf)
  clear qf
  go_wp2_with fail
  refine (thin_any (fun _ => False) b _ _ ⟨_, rfl, Rep.keep (.of_step HT.out) HQ.out⟩).mono ?_
  rintro e wn ⟨rfl, hSn⟩
  have HTi := Lib.hid (HT.out.trans hSn)
  clear hSn HT
  have HT := HTi
  clear HTi
  (try clear e0 e1 e2 e3 e4 f0 f1 f2 f3 f4 f5 y1 y2)
  obtain ⟨e0, e1, e2, e3, e4⟩ := cells5 (HB1.out.step HT.out)
  obtain ⟨f0, f1, f2, f3, f4, f5⟩ := cells6 (HB2.out.step HT.out)
  have y1 := (HB1.out.step HT.out).lt
  have y2 := (HB2.out.step HT.out).lt
  cases qt : thin b with
  | false =>
    clear qt
    go_wp2_with fail
    refine (awake_any _).mono ?_
    rintro e wz ⟨rfl, hSz⟩
    go_wp2
    go_ret
    exact ⟨rfl, HS.out.trans (HT.out.trans hSz)⟩
  | true =>
  have HTHIN := Lib.hid (thinP_of qt)
  clear qt
  by_cases ql : l.length ≤ 120
  rotate_left
  · have hd : decide ((120 : Int) < (l.length : Int)) = true := by simp; omega
    go_wp2_with fail
    refine (awake_any _).mono ?_
    rintro e wz ⟨rfl, hSz⟩
    go_wp2
    go_ret
    exact ⟨rfl, HS.out.trans (HT.out.trans hSz)⟩
  have hd : decide ((120 : Int) < (l.length : Int)) = false := by simp; omega
  (try clear x0 x1 x2 x3 x4)
  obtain ⟨x0, x1, x2, x3, x4⟩ := cells5 (HBM.out.step HT.out)
  by_cases qm : ml.length ≤ 120
  rotate_left
  · have hd2 : decide ((120 : Int) < (ml.length : Int)) = true := by simp; omega
    go_wp2_with fail
    refine (awake_any _).mono ?_
    rintro e wz ⟨rfl, hSz⟩
    go_wp2
    go_ret
    exact ⟨rfl, HS.out.trans (HT.out.trans hSz)⟩
  have hd2 : decide ((120 : Int) < (ml.length : Int)) = false := by simp; omega
  (try clear e0 e1 e2 e3 e4 f0 f1 f2 f3 f4 f5 y1 y2)
  go_upto_region 3 with (fail)
  have HSZ0 := Lib.hid (HT.out.size)
  have hwq := HT.out
  clear hd hd2 x0 x1 x2 x3 x4
  refine wp_region_seqM (fun c d v a w h => by cases d <;> exact h) (kdOf [1, 3, 7, 8] [(13, 36, .agg #[.int .i64 0, .slice none 0 0, .slice none 0 0, .int .i64 0, .slice none 0 0, .int .i64 0]), (14, 74, .agg #[.int .i64 0, .int .i64 0, .int .i64 0, .int .i64 0, .slice none 0 0])]) [0, 1, 0, 7, 0, 0, 0, 79, 255, 511, 1023, 1023, 1023, 0, 0, 26623, 61439, 131071] [0, 2, 4, 5, 6, 1, 3, 7, 8, 9, 10, 11, 12, 13, 14] [15, 16, 17] (by kernel_rfl) (by kernel_rfl) (fun i T z hi hk => by simp only [List.mem_cons, List.not_mem_nil, or_false] at hi; rcases hi with rfl | rfl | rfl | rfl | rfl | rfl | rfl | rfl | rfl | rfl | rfl | rfl | rfl | rfl | rfl <;> simp [kdOf] at hk <;> (obtain ⟨rfl, rfl⟩ := hk; first | (show Option.bind _ _ = some _; kernel_rfl) | (refine ⟨_, rfl, fun _ _ => ?_⟩; go_simp))) ?_
  intro Wx hWx
  have HTx := Lib.hid (hwq.trans hWx)
  clear hWx hwq HT
  have HT := HTx
  clear HTx
  (try clear e0 e1 e2 e3 e4 f0 f1 f2 f3 f4 f5 y1 y2)
  obtain ⟨e0, e1, e2, e3, e4⟩ := cells5 (HB1.out.step HT.out)
  obtain ⟨f0, f1, f2, f3, f4, f5⟩ := cells6 (HB2.out.step HT.out)
  have y1 := (HB1.out.step HT.out).lt
  have y2 := (HB2.out.step HT.out).lt
  (try clear x0 x1 x2 x3 x4)
  obtain ⟨x0, x1, x2, x3, x4⟩ := cells5 (HBM.out.step HT.out)
  repeat (first | (refine run_off rfl rfl (by rfl) ?_; (try simp only [Act.put, List.setIfInBounds_toArray, List.set_cons_zero, List.set_cons_succ])) | (refine run_chain_off rfl rfl (by rfl) (K0_mono _) ?_; (try simp only [Act.put, List.setIfInBounds_toArray, List.set_cons_zero, List.set_cons_succ])) | ((refine run_want rfl rfl (by rfl) ⟨?_, fun W hW => ?_, ?_⟩; rotate_left; (· (have d0 := hW.keeps.cell id e0; have d1 := hW.keeps.cell id e1; have d2 := hW.keeps.cell id e2; have d3 := hW.keeps.cell id e3; have d4 := hW.keeps.cell id e4; have d5 := hW.keeps.cell id f0; have d6 := hW.keeps.cell id f1; have d7 := hW.keeps.cell id f2; have d8 := hW.keeps.cell id f3; have d9 := hW.keeps.cell id f4; have d10 := hW.keeps.cell id f5; have d11 := hW.keeps.cell id x0; have d12 := hW.keeps.cell id x1; have d13 := hW.keeps.cell id x2; have d14 := hW.keeps.cell id x3; have d15 := hW.keeps.cell id x4; go_simp; (try with_reducible rfl)))); (try simp only [Act.put, List.setIfInBounds_toArray, List.set_cons_zero, List.set_cons_succ])))
  refine run_chain rfl rfl (by rfl) (fun Wi hWi K' hK => ?_)
  have HTi := Lib.hid (HT.out.trans hWi)
  have HZW := Lib.hid HTi.out.size
  clear hWi HT
  go_simp
  refine (House_any _ h _ _ ⟨_, rfl, Rep.keep (.of_step HTi.out) HR.out⟩ HFEW.out).mono ?_
  rintro e wn ⟨v1a, rfl, hv1, hSn⟩
  have HT := Lib.hid (HTi.out.trans (StepX.of hSn))
  clear HTi
  have HV1 := Lib.hid (AV.triv hv1)
  clear hv1
  refine hK _ _ (StepX.of hSn) ?_
  clear hSn
  (try simp only [Act.put, List.setIfInBounds_toArray, List.set_cons_zero, List.set_cons_succ])
  repeat (first | (refine run_off rfl rfl (by rfl) ?_; (try simp only [Act.put, List.setIfInBounds_toArray, List.set_cons_zero, List.set_cons_succ])) | (refine run_chain_off rfl rfl (by rfl) (K0_mono _) ?_; (try simp only [Act.put, List.setIfInBounds_toArray, List.set_cons_zero, List.set_cons_succ])) | ((refine run_want rfl rfl (by rfl) ⟨?_, fun W hW => ?_, ?_⟩; rotate_left; (· (skip; go_simp; (try with_reducible rfl)))); (try simp only [Act.put, List.setIfInBounds_toArray, List.set_cons_zero, List.set_cons_succ])))
  refine run_chain rfl rfl (by rfl) (fun Wi hWi K' hK => ?_)
  have HTi := Lib.hid (HT.out.trans hWi)
  have HV1i := Lib.hid (HV1.out.keep (.of_step hWi))
  clear hWi HT HV1
  go_simp
  refine (Book_any _ b _ _ ⟨_, rfl, Rep.keep (.of_step HTi.out) HQ.out⟩ HTHIN.out).mono ?_
  rintro e wn2 ⟨v2a, rfl, hv2, hSn⟩
  have HV2 := Lib.hid (AV.triv hv2)
  have HV1 := Lib.hid (HV1i.out.keep (.of_step hSn))
  have HT := Lib.hid (HTi.out.trans hSn)
  clear hv2 HV1i HTi
  refine hK _ _ (StepX.of hSn) ?_
  clear hSn hK
  (try simp only [Act.put, List.setIfInBounds_toArray, List.set_cons_zero, List.set_cons_succ])
  repeat (first | (refine run_off rfl rfl (by rfl) ?_; (try simp only [Act.put, List.setIfInBounds_toArray, List.set_cons_zero, List.set_cons_succ])) | (refine run_chain_off rfl rfl (by rfl) (K0_mono _) ?_; (try simp only [Act.put, List.setIfInBounds_toArray, List.set_cons_zero, List.set_cons_succ])) | ((refine run_want rfl rfl (by rfl) ⟨?_, fun W hW => ?_, ?_⟩; rotate_left; (· (skip; go_simp; (try with_reducible rfl)))); (try simp only [Act.put, List.setIfInBounds_toArray, List.set_cons_zero, List.set_cons_succ])))
  refine run_chain rfl rfl (by rfl) (fun Wi hWi K' hK => ?_)
  have HTi := Lib.hid (HT.out.trans hWi)
  have HV1i := Lib.hid (HV1.out.keep (.of_step hWi))
  have HV2i := Lib.hid (HV2.out.keep (.of_step hWi))
  clear hWi HT HV1 HV2
  go_simp
  refine (list_any _ l _ _ (HLS.out.keep (.of_step HTi.out)) (by omega)).mono ?_
  rintro e wn3 ⟨v3, rfl, hv3, hSn⟩
  have HV3 := Lib.hid hv3
  have HV1 := Lib.hid (HV1i.out.keep (.of_step hSn))
  have HV2 := Lib.hid (HV2i.out.keep (.of_step hSn))
  have HT := Lib.hid (HTi.out.trans hSn)
  clear hv3 HV1i HV2i HTi
  refine hK _ _ (StepX.of hSn) ?_
  clear hSn hK
  (try simp only [Act.put, List.setIfInBounds_toArray, List.set_cons_zero, List.set_cons_succ])
  repeat (first | (refine run_off rfl rfl (by rfl) ?_; (try simp only [Act.put, List.setIfInBounds_toArray, List.set_cons_zero, List.set_cons_succ])) | (refine run_chain_off rfl rfl (by rfl) (K0_mono _) ?_; (try simp only [Act.put, List.setIfInBounds_toArray, List.set_cons_zero, List.set_cons_succ])) | ((refine run_want rfl rfl (by rfl) ⟨?_, fun W hW => ?_, ?_⟩; rotate_left; (· (skip; go_simp; (try with_reducible rfl)))); (try simp only [Act.put, List.setIfInBounds_toArray, List.set_cons_zero, List.set_cons_succ])))
  refine run_chain rfl rfl (by rfl) (fun Wi hWi K' hK => ?_)
  have HTi := Lib.hid (HT.out.trans hWi)
  have HV1i := Lib.hid (HV1.out.keep (.of_step hWi))
  have HV2i := Lib.hid (HV2.out.keep (.of_step hWi))
  have HV3i := Lib.hid (HV3.out.keep (.of_step hWi))
  clear hWi HT HV1 HV2 HV3
  go_simp
  refine (Give_any _ _ h b _ _ _ t s l _ HV1i.out HV2i.out HV3i.out (by omega)).mono ?_
  rintro e w6 ⟨v6, m6, rfl, hv6, hm6, hS6⟩
  obtain ⟨xa, hxa⟩ : ∃ x, x = (actR (bookOf (gate h b (giveD h b t s l)))).1 := ⟨_, rfl⟩
  obtain ⟨ea, hea⟩ : ∃ x, x = (actR (bookOf (gate h b (giveD h b t s l)))).2 := ⟨_, rfl⟩
  obtain ⟨ma, hma⟩ : ∃ x, x = restOf noMsg (gate h b (giveD h b t s l)) := ⟨_, rfl⟩
  rw [← hxa] at hv6
  rw [← hma] at hm6
  rw [← hea]
  have HXA := Lib.hid hxa
  have HEA := Lib.hid hea
  have HMA := Lib.hid hma
  clear hxa hea hma
  obtain ⟨x1, x2, x4, rfl, t1, t2, t4⟩ := hv6.book
  obtain ⟨raa, naa, rfl⟩ := t1.form
  obtain ⟨rba, nba, rfl⟩ := t2.form
  obtain ⟨rca, nca, rfl⟩ := t4.form
  obtain ⟨mc6, rfl, tm⟩ := hm6.message
  obtain ⟨rma, nma, rfl⟩ := tm.form
  have HV6 := Lib.hid hv6
  have HM6 := Lib.hid hm6
  have HT := Lib.hid (HTi.out.trans hS6)
  clear t1 t2 t4 tm hv6 hm6 HTi HV1i HV2i HV3i
  refine hK _ _ hS6 ?_
  clear hS6 hK
  (try simp only [Act.put, List.setIfInBounds_toArray, List.set_cons_zero, List.set_cons_succ])
  repeat (first | (refine run_off rfl rfl (by rfl) ?_; (try simp only [Act.put, List.setIfInBounds_toArray, List.set_cons_zero, List.set_cons_succ])) | (refine run_chain_off rfl rfl (by rfl) (K0_mono _) ?_; (try simp only [Act.put, List.setIfInBounds_toArray, List.set_cons_zero, List.set_cons_succ])) | ((refine run_want rfl rfl (by rfl) ⟨?_, fun W hW => ?_, ?_⟩; rotate_left; (· (skip; go_simp; (try with_reducible rfl)))); (try simp only [Act.put, List.setIfInBounds_toArray, List.set_cons_zero, List.set_cons_succ])))
  refine run_alloc rfl rfl (fun W5 ga hW5 hg hgb hgN => ?_)
  (try simp only [Act.put, List.setIfInBounds_toArray, List.set_cons_zero, List.set_cons_succ])
  refine run_alloc rfl rfl (fun W5' gm hW5' hgm hgbm hgNm => ?_)
  (try simp only [Act.put, List.setIfInBounds_toArray, List.set_cons_zero, List.set_cons_succ])
  refine run_end (L := [_, _, _]) rfl (fun W6 hW6 => ?_)
  have hb6 := Bx.step (w := W5) (cs := [_, _, _, _, _, _]) hg (hW5'.trans hW6)
  have hbm6 := Bx.step (w := W5') (cs := [_, _, _, _, _]) hgm hW6
  have hne : gm ≠ ga := hgNm.2
  refine wpl_store (v := .agg #[.int .i64 (xa).agency, .slice raa (xa).seats.length naa, .slice rba (xa).off.length nba, .int .i64 (xa).sent, .slice rca (xa).took.length nca, .int .i64 (xa).cash]) rfl _ _ _ rfl rfl rfl hb6 (by kernel_rfl) (by simp [Value.cells]) (by simp [Value.cells, Value.oneCell']) [.int .i64 (xa).agency, .slice raa (xa).seats.length naa, .slice rba (xa).off.length nba, .int .i64 (xa).sent, .slice rca (xa).took.length nca, .int .i64 (xa).cash] rfl (fun w7 hb7 hw7 => ?_)
  have hbm7 := hbm6.keep hw7.keeps hne
  refine wpl_store (v := .agg #[.int .i64 (ma).frm, .int .i64 (ma).dst, .int .i64 (ma).number, .int .i64 (ma).shw, .slice rma (ma).seats.length nma]) rfl _ _ _ rfl rfl rfl hbm7 (by kernel_rfl) (by simp [Value.cells]) (by simp [Value.cells, Value.oneCell']) [.int .i64 (ma).frm, .int .i64 (ma).dst, .int .i64 (ma).number, .int .i64 (ma).shw, .slice rma (ma).seats.length nma] rfl (fun w8 hbm8 hw8 => ?_)
  have hg0 := HSZ0.out
  have hk8 : Keeps (fun j => j = ga ∨ j = gm) w6 w8 := ((Keeps.of_step ((hW5.trans hW5').trans hW6)).trans (.wrote hw7 (.inl rfl))).trans (.wrote hw8 (.inr rfl))
  have hgN1 := hgN
  have hgN2 := hgNm.1
  have HVXa := Lib.hid (AV.triv (AV.later (S := fun j => j = ga ∨ j = gm) (w' := w8) HV6.out (fun j hj hs => by omega) hk8))
  have HVMa := Lib.hid (AV.triv (AV.later (S := fun j => j = ga ∨ j = gm) (w' := w8) HM6.out (fun j hj hs => by omega) hk8))
  have HTx := Lib.hid (Step.wrote (Step.wrote (((HT.out.trans hW5).trans hW5').trans hW6) hw7 (by omega)) hw8 (by omega))
  have HBXa := Lib.hid (hb7.keep hw8.keeps (Ne.symm hne))
  have HBMa := Lib.hid hbm8
  clear hW5 hg hgb hgN hW5' hgm hgbm hgNm hW6 hb6 hbm6 hb7 hbm7 hbm8 hw7 hw8 hk8 HV6 HM6 HT hg0 HSZ0 hgN1 hgN2
  have HT := HTx
  clear HTx
  have hbm1 := HBM.out.step HT.out
  have hms1 := AV.keep (S := fun _ => False) (.of_step HT.out) HMS.out
  have hls1 := SL.keep (S := fun _ => False) (.of_step HT.out) HLS.out
  clear HBM HMS HLS
  have hb1 := HB1.out.step HT.out
  have hb2 := HB2.out.step HT.out
  have hr1 := Rep.keep (S := fun _ => False) (.of_step HT.out) HR.out
  have hq1 := Rep.keep (S := fun _ => False) (.of_step HT.out) HQ.out
  have hs1 := HS.out.trans HT.out
  clear HB1 HB2 HR HQ HS HT
  have HB1 := Lib.hid hb1
  have HB2 := Lib.hid hb2
  have HR := Lib.hid hr1
  have HQ := Lib.hid hq1
  have HS := Lib.hid hs1
  have HT := Lib.hid (Step.refl w8)
  clear hb1 hb2 hr1 hq1 hs1
  have HBM := Lib.hid hbm1
  have HMS := Lib.hid hms1
  have HLS := Lib.hid hls1
  clear hbm1 hms1 hls1
  go_upto_region 4 with (fail)
  have HSZ0 := Lib.hid (HT.out.size)
  have hwq := HT.out
  refine wp_region_seqM (fun c d v a w h => by cases d <;> exact h) (kdOf [1, 3, 5, 6] [(10, 36, .agg #[.int .i64 0, .slice none 0 0, .slice none 0 0, .int .i64 0, .slice none 0 0, .int .i64 0])]) [0, 1, 0, 7, 0, 31, 63, 127, 255, 255, 0, 1535, 4095] [0, 2, 4, 1, 3, 5, 6, 7, 8, 9, 10] [11, 12] (by kernel_rfl) (by kernel_rfl) (fun i T z hi hk => by simp only [List.mem_cons, List.not_mem_nil, or_false] at hi; rcases hi with rfl | rfl | rfl | rfl | rfl | rfl | rfl | rfl | rfl | rfl | rfl <;> simp [kdOf] at hk <;> (obtain ⟨rfl, rfl⟩ := hk; first | (show Option.bind _ _ = some _; kernel_rfl) | (refine ⟨_, rfl, fun _ _ => ?_⟩; go_simp))) ?_
  intro Wx hWx
  have HTx := Lib.hid (hwq.trans hWx)
  clear hWx hwq HT
  have HT := HTx
  clear HTx
  (try clear e0 e1 e2 e3 e4 f0 f1 f2 f3 f4 f5 y1 y2)
  obtain ⟨e0, e1, e2, e3, e4⟩ := cells5 (HB1.out.step HT.out)
  obtain ⟨f0, f1, f2, f3, f4, f5⟩ := cells6 (HB2.out.step HT.out)
  have y1 := (HB1.out.step HT.out).lt
  have y2 := (HB2.out.step HT.out).lt
  (try clear x0 x1 x2 x3 x4)
  obtain ⟨x0, x1, x2, x3, x4⟩ := cells5 (HBM.out.step HT.out)
  repeat (first | (refine run_off rfl rfl (by rfl) ?_; (try simp only [Act.put, List.setIfInBounds_toArray, List.set_cons_zero, List.set_cons_succ])) | (refine run_chain_off rfl rfl (by rfl) (K0_mono _) ?_; (try simp only [Act.put, List.setIfInBounds_toArray, List.set_cons_zero, List.set_cons_succ])) | ((refine run_want rfl rfl (by rfl) ⟨?_, fun W hW => ?_, ?_⟩; rotate_left; (· (have d0 := hW.keeps.cell id e0; have d1 := hW.keeps.cell id e1; have d2 := hW.keeps.cell id e2; have d3 := hW.keeps.cell id e3; have d4 := hW.keeps.cell id e4; have d5 := hW.keeps.cell id f0; have d6 := hW.keeps.cell id f1; have d7 := hW.keeps.cell id f2; have d8 := hW.keeps.cell id f3; have d9 := hW.keeps.cell id f4; have d10 := hW.keeps.cell id f5; have d11 := hW.keeps.cell id x0; have d12 := hW.keeps.cell id x1; have d13 := hW.keeps.cell id x2; have d14 := hW.keeps.cell id x3; have d15 := hW.keeps.cell id x4; go_simp; (try with_reducible rfl)))); (try simp only [Act.put, List.setIfInBounds_toArray, List.set_cons_zero, List.set_cons_succ])))
  refine run_chain rfl rfl (by rfl) (fun Wi hWi K' hK => ?_)
  have HTi := Lib.hid (HT.out.trans hWi)
  have HZW := Lib.hid HTi.out.size
  clear hWi HT
  go_simp
  refine (House_any _ h _ _ ⟨_, rfl, Rep.keep (.of_step HTi.out) HR.out⟩ HFEW.out).mono ?_
  rintro e wn ⟨v1b, rfl, hv1, hSn⟩
  have HT := Lib.hid (HTi.out.trans (StepX.of hSn))
  clear HTi
  have HV1 := Lib.hid (AV.triv hv1)
  clear hv1
  refine hK _ _ (StepX.of hSn) ?_
  clear hSn
  (try simp only [Act.put, List.setIfInBounds_toArray, List.set_cons_zero, List.set_cons_succ])
  repeat (first | (refine run_off rfl rfl (by rfl) ?_; (try simp only [Act.put, List.setIfInBounds_toArray, List.set_cons_zero, List.set_cons_succ])) | (refine run_chain_off rfl rfl (by rfl) (K0_mono _) ?_; (try simp only [Act.put, List.setIfInBounds_toArray, List.set_cons_zero, List.set_cons_succ])) | ((refine run_want rfl rfl (by rfl) ⟨?_, fun W hW => ?_, ?_⟩; rotate_left; (· (skip; go_simp; (try with_reducible rfl)))); (try simp only [Act.put, List.setIfInBounds_toArray, List.set_cons_zero, List.set_cons_succ])))
  refine run_chain rfl rfl (by rfl) (fun Wi hWi K' hK => ?_)
  have HTi := Lib.hid (HT.out.trans hWi)
  have HV1i := Lib.hid (HV1.out.keep (.of_step hWi))
  clear hWi HT HV1
  go_simp
  refine (Book_any _ b _ _ ⟨_, rfl, Rep.keep (.of_step HTi.out) HQ.out⟩ HTHIN.out).mono ?_
  rintro e wn2 ⟨v2b, rfl, hv2, hSn⟩
  have HV2 := Lib.hid (AV.triv hv2)
  have HV1 := Lib.hid (HV1i.out.keep (.of_step hSn))
  have HT := Lib.hid (HTi.out.trans hSn)
  clear hv2 HV1i HTi
  refine hK _ _ (StepX.of hSn) ?_
  clear hSn hK
  (try simp only [Act.put, List.setIfInBounds_toArray, List.set_cons_zero, List.set_cons_succ])
  repeat (first | (refine run_off rfl rfl (by rfl) ?_; (try simp only [Act.put, List.setIfInBounds_toArray, List.set_cons_zero, List.set_cons_succ])) | (refine run_chain_off rfl rfl (by rfl) (K0_mono _) ?_; (try simp only [Act.put, List.setIfInBounds_toArray, List.set_cons_zero, List.set_cons_succ])) | ((refine run_want rfl rfl (by rfl) ⟨?_, fun W hW => ?_, ?_⟩; rotate_left; (· (skip; go_simp; (try with_reducible rfl)))); (try simp only [Act.put, List.setIfInBounds_toArray, List.set_cons_zero, List.set_cons_succ])))
  refine run_chain rfl rfl (by rfl) (fun Wi hWi K' hK => ?_)
  have HTi := Lib.hid (HT.out.trans hWi)
  have HV1i := Lib.hid (HV1.out.keep (.of_step hWi))
  have HV2i := Lib.hid (HV2.out.keep (.of_step hWi))
  clear hWi HT HV1 HV2
  go_simp
  refine (Message_any _ ⟨mf, md, mn, ms, ml⟩ _ _ (AV.keep (.of_step HTi.out) HMS.out) (by show ml.length ≤ 1000000; omega)).mono ?_
  rintro e wn3 ⟨v3, rfl, hv3, hSn⟩
  have HV3 := Lib.hid hv3
  have HV1 := Lib.hid (HV1i.out.keep (.of_step hSn))
  have HV2 := Lib.hid (HV2i.out.keep (.of_step hSn))
  have HT := Lib.hid (HTi.out.trans hSn)
  clear hv3 HV1i HV2i HTi
  refine hK _ _ (StepX.of hSn) ?_
  clear hSn hK
  (try simp only [Act.put, List.setIfInBounds_toArray, List.set_cons_zero, List.set_cons_succ])
  repeat (first | (refine run_off rfl rfl (by rfl) ?_; (try simp only [Act.put, List.setIfInBounds_toArray, List.set_cons_zero, List.set_cons_succ])) | (refine run_chain_off rfl rfl (by rfl) (K0_mono _) ?_; (try simp only [Act.put, List.setIfInBounds_toArray, List.set_cons_zero, List.set_cons_succ])) | ((refine run_want rfl rfl (by rfl) ⟨?_, fun W hW => ?_, ?_⟩; rotate_left; (· (skip; go_simp; (try with_reducible rfl)))); (try simp only [Act.put, List.setIfInBounds_toArray, List.set_cons_zero, List.set_cons_succ])))
  refine run_chain rfl rfl (by rfl) (fun Wi hWi K' hK => ?_)
  have HTi := Lib.hid (HT.out.trans hWi)
  have HV1i := Lib.hid (HV1.out.keep (.of_step hWi))
  have HV2i := Lib.hid (HV2.out.keep (.of_step hWi))
  have HV3i := Lib.hid (HV3.out.keep (.of_step hWi))
  clear hWi HT HV1 HV2 HV3
  go_simp
  refine (Take_any _ _ h b _ _ _ ⟨mf, md, mn, ms, ml⟩ _ HV1i.out HV2i.out HV3i.out).mono ?_
  rintro e w6 ⟨v6, rfl, hv6, hS6⟩
  obtain ⟨xb, hxb⟩ : ∃ x, x = (actR (doneR h b (takeD h b ⟨mf, md, mn, ms, ml⟩))).1 := ⟨_, rfl⟩
  obtain ⟨eb, heb⟩ : ∃ x, x = (actR (doneR h b (takeD h b ⟨mf, md, mn, ms, ml⟩))).2 := ⟨_, rfl⟩
  rw [← hxb] at hv6
  rw [← heb]
  have HXB := Lib.hid hxb
  have HEB := Lib.hid heb
  clear hxb heb HV3i
  obtain ⟨w8a, hw8a⟩ : ∃ W, W = w8 := ⟨_, rfl⟩
  subst hw8a
  obtain ⟨x1, x2, x4, rfl, t1, t2, t4⟩ := hv6.book
  obtain ⟨rab, nab, rfl⟩ := t1.form
  obtain ⟨rbb, nbb, rfl⟩ := t2.form
  obtain ⟨rcb, ncb, rfl⟩ := t4.form
  have HV6 := Lib.hid hv6
  have HT := Lib.hid (HTi.out.trans hS6)
  clear t1 t2 t4 hv6 HTi HV1i HV2i
  refine hK _ _ hS6 ?_
  clear hS6 hK
  (try simp only [Act.put, List.setIfInBounds_toArray, List.set_cons_zero, List.set_cons_succ])
  repeat (first | (refine run_off rfl rfl (by rfl) ?_; (try simp only [Act.put, List.setIfInBounds_toArray, List.set_cons_zero, List.set_cons_succ])) | (refine run_chain_off rfl rfl (by rfl) (K0_mono _) ?_; (try simp only [Act.put, List.setIfInBounds_toArray, List.set_cons_zero, List.set_cons_succ])) | ((refine run_want rfl rfl (by rfl) ⟨?_, fun W hW => ?_, ?_⟩; rotate_left; (· (skip; go_simp; (try with_reducible rfl)))); (try simp only [Act.put, List.setIfInBounds_toArray, List.set_cons_zero, List.set_cons_succ])))
  refine run_alloc rfl rfl (fun W5 gb hW5 hg hgb hgN => ?_)
  (try simp only [Act.put, List.setIfInBounds_toArray, List.set_cons_zero, List.set_cons_succ])
  refine run_end (L := [_, _]) rfl (fun W6 hW6 => ?_)
  have hb6 := Bx.step (w := W5) (cs := [_, _, _, _, _, _]) hg hW6
  refine wpl_store (v := .agg #[.int .i64 (xb).agency, .slice rab (xb).seats.length nab, .slice rbb (xb).off.length nbb, .int .i64 (xb).sent, .slice rcb (xb).took.length ncb, .int .i64 (xb).cash]) rfl _ _ _ rfl rfl rfl hb6 (by kernel_rfl) (by simp [Value.cells]) (by simp [Value.cells, Value.oneCell']) [.int .i64 (xb).agency, .slice rab (xb).seats.length nab, .slice rbb (xb).off.length nbb, .int .i64 (xb).sent, .slice rcb (xb).took.length ncb, .int .i64 (xb).cash] rfl (fun w7 hb7 hw7 => ?_)
  have hg0 := HSZ0.out
  have hk7 : Keeps (fun j => j = gb) w6 w7 := (Keeps.of_step (hW5.trans hW6)).trans (.wrote hw7 rfl)
  have HVXb := Lib.hid (AV.triv (AV.later (S := fun j => j = gb) (w' := w7) HV6.out (fun j hj hs => by omega) hk7))
  have HTx := Lib.hid (Step.wrote ((HT.out.trans hW5).trans hW6) hw7 (by omega))
  have HBXb := Lib.hid hb7
  clear hW5 hg hgb hgN hW6 hb6 hb7 hw7 hk7 HV6 HT hg0 HSZ0
  have HT := HTx
  clear HTx
  have HBXa := Lib.hid (HBXa.out.step HT.out)
  have HVXa := Lib.hid (HVXa.out.keep (.of_step HT.out))
  have HBMa := Lib.hid (HBMa.out.step HT.out)
  have HVMa := Lib.hid (HVMa.out.keep (.of_step HT.out))
  have hbm1 := HBM.out.step HT.out
  have hms1 := AV.keep (S := fun _ => False) (.of_step HT.out) HMS.out
  have hls1 := SL.keep (S := fun _ => False) (.of_step HT.out) HLS.out
  clear HBM HMS HLS
  have hb1 := HB1.out.step HT.out
  have hb2 := HB2.out.step HT.out
  have hr1 := Rep.keep (S := fun _ => False) (.of_step HT.out) HR.out
  have hq1 := Rep.keep (S := fun _ => False) (.of_step HT.out) HQ.out
  have hs1 := HS.out.trans HT.out
  clear HB1 HB2 HR HQ HS HT
  have HB1 := Lib.hid hb1
  have HB2 := Lib.hid hb2
  have HR := Lib.hid hr1
  have HQ := Lib.hid hq1
  have HS := Lib.hid hs1
  have HT := Lib.hid (Step.refl w7)
  clear hb1 hb2 hr1 hq1 hs1
  have HBM := Lib.hid hbm1
  have HMS := Lib.hid hms1
  have HLS := Lib.hid hls1
  clear hbm1 hms1 hls1
  go_upto_region 5 with (fail)
  (try clear e0 e1 e2 e3 e4 f0 f1 f2 f3 f4 f5 y1 y2)
  obtain ⟨e0, e1, e2, e3, e4⟩ := cells5 (HB1.out.step HT.out)
  obtain ⟨f0, f1, f2, f3, f4, f5⟩ := cells6 (HB2.out.step HT.out)
  have y1 := (HB1.out.step HT.out).lt
  have y2 := (HB2.out.step HT.out).lt
  go_wp2_with fail
  refine (wrong_any (fun _ => False) h b _ _ _ ⟨_, rfl, Rep.keep (.of_step HT.out) HR.out⟩ ⟨_, rfl, Rep.keep (.of_step HT.out) HQ.out⟩).mono ?_
  rintro e wn3 ⟨rfl, hSn⟩
  have HTn := Lib.hid (HT.out.trans hSn)
  clear hSn HT
  have HT := HTn
  clear HTn
  (try clear e0 e1 e2 e3 e4 f0 f1 f2 f3 f4 f5 y1 y2)
  cases qw : wrongB h b with
  | true =>
    obtain rfl : xa = noBook := by rw [HXA.out, gate_wrong qw]; rfl
    obtain rfl : ea = 1 := by rw [HEA.out, gate_wrong qw]; rfl
    obtain rfl : ma = noMsg := by rw [HMA.out, gate_wrong qw]; rfl
    obtain rfl : xb = noBook := by rw [HXB.out, done_gate qw]; rfl
    obtain rfl : eb = 1 := by rw [HEB.out, done_gate qw]; rfl
    clear qw HXA HEA HMA HXB HEB
    obtain ⟨g0, g1, g2, g3, g4, g5⟩ := cells6 (HBXa.out.step HT.out)
    go_wp2_with fail
    refine (empty_any _ noBook _ _ (HVXa.out.keep (.of_step HT.out))).mono ?_
    rintro e wn4 ⟨rfl, hSn⟩
    rw [alike_self]
    have HTn := Lib.hid (HT.out.trans hSn)
    clear hSn HT
    have HT := HTn
    clear HTn
    clear g0 g1 g2 g3 g4 g5
    obtain ⟨g0, g1, g2, g3, g4, g5⟩ := cells6 (HBXb.out.step HT.out)
    go_wp2_with fail
    refine (empty_any _ noBook _ _ (HVXb.out.keep (.of_step HT.out))).mono ?_
    rintro e wn5 ⟨rfl, hSn⟩
    rw [alike_self]
    have HTn := Lib.hid (HT.out.trans hSn)
    clear hSn HT
    have HT := HTn
    clear HTn
    clear g0 g1 g2 g3 g4 g5
    obtain ⟨g0, g1, g2, g3, g4⟩ := cells5 (HBMa.out.step HT.out)
    go_wp2_with fail
    refine (message_any _ noMsg noMsg _ _ _ (HVMa.out.keep (.of_step HT.out)) ⟨_, rfl, noMsg_rep _ _⟩).mono ?_
    rintro e wn6 ⟨rfl, hSn⟩
    rw [mess_self]
    have HTn := Lib.hid (HT.out.trans hSn)
    clear hSn HT
    have HT := HTn
    clear HTn
    go_wp2_with fail
    refine (awake_any _).mono ?_
    rintro e wz ⟨rfl, hSz⟩
    go_wp2
    go_ret
    exact ⟨rfl, HS.out.trans (HT.out.trans hSz)⟩
  | false =>
    obtain ⟨hvalid, hbook⟩ := wrong_no qw
    have hxe : xa = (actR (bookOf (giveD h b t s l))).1 := by rw [HXA.out, gate_right qw]
    have hee : ea = (actR (bookOf (giveD h b t s l))).2 := by rw [HEA.out, gate_right qw]
    have hme : ma = restOf noMsg (giveD h b t s l) := by rw [HMA.out, gate_right qw]
    have hxf : xb = (actR (takeD h b ⟨mf, md, mn, ms, ml⟩)).1 := by rw [HXB.out, done_right qw]
    have hef : eb = (actR (takeD h b ⟨mf, md, mn, ms, ml⟩)).2 := by rw [HEB.out, done_right qw]
    have HTA := Lib.hid (show thinP xa by rw [hxe]; exact thin_give HTHIN.out t s l)
    have HTB := Lib.hid (show thinP xb by rw [hxf]; exact thin_take HTHIN.out _)
    have HXE := Lib.hid hxe
    have HEE := Lib.hid hee
    have HME := Lib.hid hme
    have HXF := Lib.hid hxf
    have HEF := Lib.hid hef
    have HVAL := Lib.hid (And.intro hvalid hbook)
    clear qw HXA HEA HMA HXB HEB hxe hee hme hxf hef hvalid hbook
    (try clear e0 e1 e2 e3 e4 f0 f1 f2 f3 f4 f5 y1 y2)
    obtain ⟨e0, e1, e2, e3, e4⟩ := cells5 (HB1.out.step HT.out)
    obtain ⟨f0, f1, f2, f3, f4, f5⟩ := cells6 (HB2.out.step HT.out)
    have y1 := (HB1.out.step HT.out).lt
    have y2 := (HB2.out.step HT.out).lt
    go_wp2_with fail
    refine (RGive_any (fun _ => False) (fun _ => False) h b t s l _ _ _ _ ⟨_, rfl, Rep.keep (.of_step HT.out) HR.out⟩ ⟨_, rfl, Rep.keep (.of_step HT.out) HQ.out⟩ (HLS.out.keep (.of_step HT.out)) (by omega) HVAL.out.1 HVAL.out.2).mono ?_
    rintro e wn4 ⟨v8, m8, rfl, hv8, hm8, hSn⟩
    rw [← HXE.out] at hv8
    rw [← HME.out] at hm8
    rw [← HEE.out]
    obtain ⟨x1, x2, x4, rfl, t1, t2, t4⟩ := hv8.book
    obtain ⟨rac, nac, rfl⟩ := t1.form
    obtain ⟨rbc, nbc, rfl⟩ := t2.form
    obtain ⟨rcc, ncc, rfl⟩ := t4.form
    obtain ⟨mc8, rfl, tm⟩ := hm8.message
    obtain ⟨rmc, nmc, rfl⟩ := tm.form
    have HV8 := Lib.hid (AV.triv hv8)
    have HM8 := Lib.hid (AV.triv hm8)
    have HTi := Lib.hid (HT.out.trans hSn)
    clear hSn HT t1 t2 t4 tm hv8 hm8
    have HT := HTi
    clear HTi
    (try clear e0 e1 e2 e3 e4 f0 f1 f2 f3 f4 f5 y1 y2)
    go_upto_region 8 with (fail)
    have hsA := (Step.alloc wn4 (.cells #[.int .i64 (xa).agency, .slice rac (xa).seats.length nac, .slice rbc (xa).off.length nbc, .int .i64 (xa).sent, .slice rcc (xa).took.length ncc, .int .i64 (xa).cash] 30)).trans (Step.alloc (wn4.alloc (.cells #[.int .i64 (xa).agency, .slice rac (xa).seats.length nac, .slice rbc (xa).off.length nbc, .int .i64 (xa).sent, .slice rcc (xa).took.length ncc, .int .i64 (xa).cash] 30)) (.cells #[.int .i64 (ma).frm, .int .i64 (ma).dst, .int .i64 (ma).number, .int .i64 (ma).shw, .slice rmc (ma).seats.length nmc] 73))
    have hbP := (Bx.new wn4 [.int .i64 (xa).agency, .slice rac (xa).seats.length nac, .slice rbc (xa).off.length nbc, .int .i64 (xa).sent, .slice rcc (xa).took.length ncc, .int .i64 (xa).cash] 30).alloc (.cells #[.int .i64 (ma).frm, .int .i64 (ma).dst, .int .i64 (ma).number, .int .i64 (ma).shw, .slice rmc (ma).seats.length nmc] 73)
    have hbM : Bx ((wn4.alloc (.cells #[.int .i64 (xa).agency, .slice rac (xa).seats.length nac, .slice rbc (xa).off.length nbc, .int .i64 (xa).sent, .slice rcc (xa).took.length ncc, .int .i64 (xa).cash] 30)).alloc (.cells #[.int .i64 (ma).frm, .int .i64 (ma).dst, .int .i64 (ma).number, .int .i64 (ma).shw, .slice rmc (ma).seats.length nmc] 73)) (wn4.heap.size + 1) [.int .i64 (ma).frm, .int .i64 (ma).dst, .int .i64 (ma).number, .int .i64 (ma).shw, .slice rmc (ma).seats.length nmc] 73 := Bx.new' _ [_, _, _, _, _] _ _ (by simp)
    have HVXc := Lib.hid (HV8.out.keep (.of_step hsA))
    have HVMc := Lib.hid (HM8.out.keep (.of_step hsA))
    have HTx := Lib.hid (HT.out.trans hsA)
    have HBXc := Lib.hid hbP
    have HBMc := Lib.hid hbM
    clear hsA HT HV8 HM8 hbP hbM
    have HT := HTx
    clear HTx
    generalize (wn4.alloc (.cells #[.int .i64 (xa).agency, .slice rac (xa).seats.length nac, .slice rbc (xa).off.length nbc, .int .i64 (xa).sent, .slice rcc (xa).took.length ncc, .int .i64 (xa).cash] 30)).alloc (.cells #[.int .i64 (ma).frm, .int .i64 (ma).dst, .int .i64 (ma).number, .int .i64 (ma).shw, .slice rmc (ma).seats.length nmc] 73) = wrc at *
    generalize wn4.heap.size = gc at *
    have HBXa := Lib.hid (HBXa.out.step HT.out)
    have HVXa := Lib.hid (HVXa.out.keep (.of_step HT.out))
    have HBMa := Lib.hid (HBMa.out.step HT.out)
    have HVMa := Lib.hid (HVMa.out.keep (.of_step HT.out))
    have HBXb := Lib.hid (HBXb.out.step HT.out)
    have HVXb := Lib.hid (HVXb.out.keep (.of_step HT.out))
    have hbm1 := HBM.out.step HT.out
    have hms1 := AV.keep (S := fun _ => False) (.of_step HT.out) HMS.out
    have hls1 := SL.keep (S := fun _ => False) (.of_step HT.out) HLS.out
    clear HBM HMS HLS
    have hb1 := HB1.out.step HT.out
    have hb2 := HB2.out.step HT.out
    have hr1 := Rep.keep (S := fun _ => False) (.of_step HT.out) HR.out
    have hq1 := Rep.keep (S := fun _ => False) (.of_step HT.out) HQ.out
    have hs1 := HS.out.trans HT.out
    clear HB1 HB2 HR HQ HS HT
    have HB1 := Lib.hid hb1
    have HB2 := Lib.hid hb2
    have HR := Lib.hid hr1
    have HQ := Lib.hid hq1
    have HS := Lib.hid hs1
    have HT := Lib.hid (Step.refl wrc)
    clear hb1 hb2 hr1 hq1 hs1
    have HBM := Lib.hid hbm1
    have HMS := Lib.hid hms1
    have HLS := Lib.hid hls1
    clear hbm1 hms1 hls1
    (try clear e0 e1 e2 e3 e4 f0 f1 f2 f3 f4 f5 y1 y2)
    obtain ⟨e0, e1, e2, e3, e4⟩ := cells5 (HB1.out.step HT.out)
    obtain ⟨f0, f1, f2, f3, f4, f5⟩ := cells6 (HB2.out.step HT.out)
    have y1 := (HB1.out.step HT.out).lt
    have y2 := (HB2.out.step HT.out).lt
    (try clear x0 x1 x2 x3 x4)
    obtain ⟨x0, x1, x2, x3, x4⟩ := cells5 (HBM.out.step HT.out)
    go_wp2_with fail
    refine (RTake_any (fun _ => False) (fun _ => False) h b ⟨mf, md, mn, ms, ml⟩ _ _ _ _ ⟨_, rfl, Rep.keep (.of_step HT.out) HR.out⟩ ⟨_, rfl, Rep.keep (.of_step HT.out) HQ.out⟩ (AV.keep (.of_step HT.out) HMS.out) HVAL.out.1 HVAL.out.2).mono ?_
    rintro e wn4 ⟨v8, rfl, hv8, hSn⟩
    clear x0 x1 x2 x3 x4
    rw [← HXF.out] at hv8
    rw [← HEF.out]
    obtain ⟨x1, x2, x4, rfl, t1, t2, t4⟩ := hv8.book
    obtain ⟨rad, nad, rfl⟩ := t1.form
    obtain ⟨rbd, nbd, rfl⟩ := t2.form
    obtain ⟨rcd, ncd, rfl⟩ := t4.form
    have HV8 := Lib.hid (AV.triv hv8)
    have HTi := Lib.hid (HT.out.trans hSn)
    clear hSn HT t1 t2 t4 hv8
    have HT := HTi
    clear HTi
    (try clear e0 e1 e2 e3 e4 f0 f1 f2 f3 f4 f5 y1 y2)
    go_upto_region 9 with (fail)
    have hbP := Bx.new wn4 [.int .i64 (xb).agency, .slice rad (xb).seats.length nad, .slice rbd (xb).off.length nbd, .int .i64 (xb).sent, .slice rcd (xb).took.length ncd, .int .i64 (xb).cash] 30
    have hsA := Step.alloc wn4 (.cells #[.int .i64 (xb).agency, .slice rad (xb).seats.length nad, .slice rbd (xb).off.length nbd, .int .i64 (xb).sent, .slice rcd (xb).took.length ncd, .int .i64 (xb).cash] 30)
    have HVXd := Lib.hid (HV8.out.keep (.of_step hsA))
    have HTx := Lib.hid (HT.out.trans hsA)
    have HBXd := Lib.hid hbP
    clear hsA HT HV8 hbP
    have HT := HTx
    clear HTx
    generalize wn4.alloc (.cells #[.int .i64 (xb).agency, .slice rad (xb).seats.length nad, .slice rbd (xb).off.length nbd, .int .i64 (xb).sent, .slice rcd (xb).took.length ncd, .int .i64 (xb).cash] 30) = wrd at *
    generalize wn4.heap.size = gd at *
    have hne1 : (ea == ea) = true := by simp
    have hne2 : (eb == eb) = true := by simp
    obtain ⟨g0, g1, g2, g3, g4, g5⟩ := cells6 (HBXa.out.step HT.out)
    obtain ⟨z0, z1, z2, z3, z4, z5⟩ := cells6 (HBXc.out.step HT.out)
    go_wp2_with fail
    refine (same_any _ xa xa _ _ _ (HVXa.out.keep (.of_step HT.out)) (HVXc.out.keep (.of_step HT.out)) HTA.out).mono ?_
    rintro e wn6 ⟨rfl, hSn⟩
    rw [alike_self]
    have HBXd := Lib.hid (HBXd.out.step hSn)
    have HVXd := Lib.hid (HVXd.out.keep (.of_step hSn))
    have HTn := Lib.hid (HT.out.trans hSn)
    clear hSn HT
    have HT := HTn
    clear HTn
    clear g0 g1 g2 g3 g4 g5 z0 z1 z2 z3 z4 z5
    obtain ⟨g0, g1, g2, g3, g4⟩ := cells5 (HBMa.out.step HT.out)
    obtain ⟨z0, z1, z2, z3, z4⟩ := cells5 (HBMc.out.step HT.out)
    go_wp2_with fail
    refine (message_any _ ma ma _ _ _ (HVMa.out.keep (.of_step HT.out)) (HVMc.out.keep (.of_step HT.out))).mono ?_
    rintro e wn7 ⟨rfl, hSn⟩
    rw [mess_self]
    have HBXd := Lib.hid (HBXd.out.step hSn)
    have HVXd := Lib.hid (HVXd.out.keep (.of_step hSn))
    have HTn := Lib.hid (HT.out.trans hSn)
    clear hSn HT
    have HT := HTn
    clear HTn
    clear g0 g1 g2 g3 g4 z0 z1 z2 z3 z4
    obtain ⟨g0, g1, g2, g3, g4, g5⟩ := cells6 (HBXb.out.step HT.out)
    obtain ⟨z0, z1, z2, z3, z4, z5⟩ := cells6 HBXd.out
    go_wp2_with fail
    refine (same_any _ xb xb _ _ _ (HVXb.out.keep (.of_step HT.out)) HVXd.out HTB.out).mono ?_
    rintro e wn8 ⟨rfl, hSn⟩
    rw [alike_self]
    have HTn := Lib.hid (HT.out.trans hSn)
    clear hSn HT
    have HT := HTn
    clear HTn
    go_wp2_with fail
    refine (awake_any _).mono ?_
    rintro e wz ⟨rfl, hSz⟩
    go_wp2
    go_ret
    exact ⟨rfl, HS.out.trans (HT.out.trans hSz)⟩
end Go.Proofs.Ytbgfmikbhiblgaa
/- TicketGives: of every input the law answers true, and its arguments read as they did. -/
namespace Go.Proofs.Ytbgfmikbhiblgaa.gives
open Go.ChangeShapes Go.WideShapes Go.ChangeAt Go.RowKit Go.BT
set_option linter.unusedVariables false
set_option linter.unusedSimpArgs false

set_option maxRecDepth 100000 in
theorem lifted (os : Os) (started : os.Started) (H : Type) (enc : TypeId × Value → H) :
    ReturnsInHanded {} Try.checked os 6 .any (Rows.ticketGivesSpec.pre6 enc Try.prog Try.f6 Rows.ticketGivesRow.domain false) (Rows.ticketGivesSpec.post enc Try.prog Try.f6 false true false false) := by
  refine returnsInHanded_of_change (C := Try.checked) own started (by kernel_rfl) Try.func6
    (ChangeSpec.witness6 (enc := enc) (C := Try.checked) false ⟨#[], #[.agg #[.slice none 0 0, .slice none 0 0, .slice none 0 0, .slice none 0 0, .slice none 0 0], .agg #[.int .i64 0, .slice none 0 0, .slice none 0 0, .int .i64 0, .slice none 0 0, .int .i64 0], .int .i64 0, .int .i64 0, .slice none 0 0, .agg #[.int .i64 0, .int .i64 0, .int .i64 0, .int .i64 0, .slice none 0 0]], []⟩ 8 (by kernel_rfl) (by kernel_rfl) (by kernel_rfl) (by kernel_rfl)) ?_
  intro W base args ds gs before hval0 hW hcnd _
  have hval : ∀ (j : Nat) t v, Try.f6.params[j]? = some t → args[j]? = some v → Value.okWide Try.prog W .any base t v := hval0
  have hW' := hW
  obtain ⟨p, q, hA0, hV, rfl, hfz, hnd⟩ := hW
  have hA : DataW.TrodAll enc Try.prog W 0 (fun _ => true) true Try.f6.params.toList args.toList ds p := hA0
  have hAk := hA
  rw [Try.params6] at hA hval
  obtain ⟨v0, vs0, d0, ds0, p0, q0, hargs, rfl, rfl, h0, r0⟩ := trodAll_cons hA
  obtain ⟨v1, vs1, d1, ds1, p1, q1, rfl, rfl, rfl, h1, r1⟩ := trodAll_cons r0
  obtain ⟨v2, vs2, d2, ds2, p2, q2, rfl, rfl, rfl, h2, r2⟩ := trodAll_cons r1
  obtain ⟨v3, vs3, d3, ds3, p3, q3, rfl, rfl, rfl, h3, r3⟩ := trodAll_cons r2
  obtain ⟨v4, vs4, d4, ds4, p4, q4, rfl, rfl, rfl, h4, r4⟩ := trodAll_cons r3
  obtain ⟨v5, vs5, d5, ds5, p5, q5, rfl, rfl, rfl, h5, r5⟩ := trodAll_cons r4
  obtain ⟨rfl, rfl, rfl⟩ := trodAll_nil r5
  obtain rfl : args = #[v0, v1, v2, v3, v4, v5] := by cases args; simp_all
  obtain ⟨rfl, rfl⟩ := trodVars_none hV
  obtain ⟨a0, hh0⟩ := av_of opens_House Try.underlying26 (hval 0 26 v0 rfl rfl) h0
  obtain ⟨a1, hh1⟩ := av_of opens_Book Try.underlying30 (hval 1 30 v1 rfl rfl) h1
  obtain ⟨a2, rfl, rfl, rfl, w2⟩ := open_int Try.underlying3 (hval 2 3 v2 rfl rfl) h2
  obtain ⟨a3, rfl, rfl, rfl, w3⟩ := open_int Try.underlying3 (hval 3 3 v3 rfl rfl) h3
  obtain ⟨a4, hh4⟩ := sl_of opens_ints Try.underlying23 (hval 4 23 v4 rfl rfl) h4
  obtain ⟨a5, hh5⟩ := av_of opens_Message Try.underlying73 (hval 5 73 v5 rfl rfl) h5
  clear hA0 hval0
  refine (TicketGives_any a0 a1 a2 a3 a4 a5 v0 v1 v4 v5 W hh0 hh1 hh4 hh5).mono fun e W' ⟨he, hg⟩ => ?_
  subst he
  have hlt := hW'.lt
  refine ⟨_, rfl, post_of_below (pv := []) hW' (fun _ _ _ => (trodAll_cons_mk (shut_bool Try.underlying4 _) trodAll_mk0)) (fun sp hs => all_stays laid hg.below (fun t ht => ?_) hAk (fun x hx => hlt x (by simpa using hx)) (fun x hx => hs x (by simpa using hx))) (fun _ _ => rfl) rfl hg.below (ok_one (by kernel_rfl) rfl (okWide_bool_mk Try.underlying4 _))⟩
  rw [Try.params6] at ht
  have : ∀ t ∈ [26, 30, 3, 3, 23, 73], Try.prog.readableRec t = true ∧ t < Try.prog.types.size := by
    intro t ht
    simp only [List.mem_cons, List.not_mem_nil, or_false] at ht
    rcases ht with rfl | rfl | rfl | rfl | rfl | rfl <;> exact ⟨by kernel_rfl, of_decide_eq_true (by kernel_rfl)⟩
  exact this t ht

theorem over : Rows.ticketGivesRow.holds Try.pinned (OpenSpec.ofChange Rows.ticketGivesSpec) :=
  OpenClaim.holds_of_wide 6 Try.f6 rfl rfl rfl rfl rfl rfl rfl ⟨rfl, rfl, rfl, rfl, rfl⟩ rfl rfl rfl rfl rfl (by kernel_rfl) Try.func6 (by kernel_rfl)
    (of_decide_eq_true (by kernel_rfl)) (by unfold Func.isWrapper; first | (rw [if_pos (by decide +kernel)]; kernel_rfl) | (rw [if_neg (by decide +kernel)]; exact ⟨rfl, rfl⟩))
    (fun os started H enc _ => lifted os started H enc)
theorem proved : Rows.TicketGivesSaid := over
end Go.Proofs.Ytbgfmikbhiblgaa.gives
