/- TicketCounts holds of every input, and its arguments read afterwards as they did. -/
import Derived.Test.YtbgfmikbhiblgaaMr
import Derived.Test.YtbgfmikbhiblgaaMs
import Derived.Test.YtbgfmikbhiblgaaMw
import Derived.Test.YtbgfmikbhiblgaaMy
import Derived.Test.YtbgfmikbhiblgaaMz
import Derived.Test.YtbgfmikbhiblgaaRows
/- Walks: the law TicketCounts: it answers true. -/
namespace Go.Proofs.Ytbgfmikbhiblgaa
set_option linter.unusedSimpArgs false
set_option linter.unusedVariables false
open Go.RowKit Go.BT

theorem equal_count (a b : Int) (w : World) : (Op.equal 95 (.agg #[.int .i64 a, .int .i64 b]) (.agg #[.int .i64 a, .int .i64 b])).run Try.prog w = .ok true w := by
  unfold Op.equal Op.maxDepth
  rw [run_equalIn_agg (w := w) 9999 95 _ _ (by kernel_rfl) (by kernel_rfl)]
  have hf : (Try.prog.fieldsOf 95).toList.map (fun f => (f.name, f.type, f.offset)) = [("Free", 3, 0), ("Sold", 3, 1)] := by kernel_rfl
  obtain ⟨f, g, hfg⟩ : ∃ f g, (Try.prog.fieldsOf 95).toList = [f, g] := by
    cases hl : (Try.prog.fieldsOf 95).toList with
    | nil => simp [hl] at hf
    | cons f l =>
      cases l with
      | nil => simp [hl] at hf
      | cons g l =>
        cases l with
        | nil => exact ⟨f, g, rfl⟩
        | cons _ _ => simp [hl] at hf
  rw [hfg] at hf ⊢
  simp only [List.map_cons, List.map_nil, List.cons.injEq, Prod.mk.injEq, and_true] at hf
  obtain ⟨⟨n1, t1, o1⟩, n2, t2, o2⟩ := hf
  have hi : Try.prog.underlying 3 = some (.int .i64) := by kernel_rfl
  simp [Op.eqFields, n1, n2, t1, t2, o1, o2, hi, part, run_underlying hi]
  have hq : ∀ (a b : Int) (w : World), (Op.equalIn 9999 3 (.int .i64 a) (.int .i64 b)).run Try.prog w = .ok (a == b) w := fun a b w => run_equalIn_int (w := w) 9998 _ _ .i64 _ _ hi
  simp [hq, Result.andThen_ok]
theorem neq_count (a b : Int) (w : World) : (binOp .neq 95 (.agg #[.int .i64 a, .int .i64 b]) (.agg #[.int .i64 a, .int .i64 b])).run Try.prog w = .ok (.bool false) w := by
  have h := equal_count a b w
  unfold Op.equal Op.maxDepth at h
  rw [run_neq_struct, h]
  rfl
theorem _root_.Go.BT.SL.counts {S : Nat → Prop} {w : World} {v : Value} {l : List Count} (h : SL S w v l) :
    ∃ p c b o, v = .slice p l.length c ∧ l.length ≤ c ∧ l.length ≤ 9223372036854775807 ∧ (0 < l.length → p = some ⟨b, o, none⟩) ∧
      (∀ i (h : i < l.length), w.cell? ⟨b, o + i * 2, none⟩ = some (.int .i64 l[i].free) ∧ w.cell? ⟨b, o + i * 2 + 1, none⟩ = some (.int .i64 l[i].sold)) ∧ (0 < l.length → b < w.heap.size ∧ ¬ S b) := by
  obtain ⟨p, c, b, o, hv, hc, hm, hp, ha⟩ := h
  refine ⟨p, c, b, o, hv, hc, hm, hp, fun i hi => ?_, fun h0 => ⟨(ha 0 h0).1, (ha 0 h0).2.1⟩⟩
  obtain ⟨_, _, cs, hr, hcs⟩ := ha i hi
  have hr' : cs = [.int .i64 l[i].free, .int .i64 l[i].sold] := hr
  subst hr'
  exact ⟨hcs 0 _ rfl, hcs 1 _ rfl⟩
theorem ints_self (a : List Int) : intsB a a = true := by simp [intsB]
attribute [local go_sem] neq_count
set_option maxRecDepth 100000 in
set_option maxHeartbeats 8000000 in
theorem TicketCounts_any (h : House) (b : Book) (s c d : Int) (v u : Value) (w : World) (hv : AV (fun _ => False) w v h) (hu : AV (fun _ => False) w u b) :
    Calls Try.prog 7 #[v, u, .int .i64 s, .int .i64 c, .int .i64 d] w fun e w' => e = .returned (.bool true) ∧ Step w w' := by
  obtain ⟨cs, rfl, hr0⟩ := hv
  have hr := hr0
  obtain ⟨c0, c1, c2, c3, c4, rfl, h0, h1, h2, h3, h4⟩ := hr
  obtain ⟨p0, k0, rfl⟩ := h0.form
  obtain ⟨p1, k1, rfl⟩ := h1.form
  obtain ⟨p2, k2, rfl⟩ := h2.form
  obtain ⟨p3, k3, rfl⟩ := h3.form
  obtain ⟨p4, k4, rfl⟩ := h4.form
  obtain ⟨cs, rfl, hq0⟩ := hu
  have hq := hq0
  obtain ⟨d1, d2, d4, rfl, s1, s2, s4⟩ := hq
  obtain ⟨q1, m1, rfl⟩ := s1.form
  obtain ⟨q2, m2, rfl⟩ := s2.form
  obtain ⟨q4, m4, rfl⟩ := s4.form
  obtain ⟨W2, hW2⟩ : ∃ W2, W2 = (w.alloc (.cells #[.slice p0 h.sectors.length k0, .slice p1 h.prices.length k1, .slice p2 h.dates.length k2, .slice p3 h.frm.length k3, .slice p4 h.holds.length k4] 26)).alloc (.cells #[.int .i64 b.agency, .slice q1 b.seats.length m1, .slice q2 b.off.length m2, .int .i64 b.sent, .slice q4 b.took.length m4, .int .i64 b.cash] 30) := ⟨_, rfl⟩
  have hbx : Bx W2 w.heap.size [.slice p0 h.sectors.length k0, .slice p1 h.prices.length k1, .slice p2 h.dates.length k2, .slice p3 h.frm.length k3, .slice p4 h.holds.length k4] 26 := by subst hW2; exact (Bx.new _ _ _).alloc _
  have hb2 : Bx W2 (w.heap.size + 1) [.int .i64 b.agency, .slice q1 b.seats.length m1, .slice q2 b.off.length m2, .int .i64 b.sent, .slice q4 b.took.length m4, .int .i64 b.cash] 30 := by subst hW2; exact Bx.new' _ _ _ _ (by simp)
  have hS : Step w W2 := by subst hW2; exact (by repeat (first | (with_reducible assumption) | (with_reducible exact Step.refl _) | (with_reducible apply Step.s_alloc) | (with_reducible apply Step.s_drew) | (with_reducible apply Step.s_drewN) | (with_reducible refine Step.trans ?_ (by with_reducible assumption))))
  have HB1 := Lib.hid hbx
  have HB2 := Lib.hid hb2
  have HR := Lib.hid (Rep.keep (.of_step hS) hr0)
  have HQ := Lib.hid (Rep.keep (.of_step hS) hq0)
  have HS := Lib.hid hS
  have HT := Lib.hid (Step.refl W2)
  have HW := Lib.hid hW2
  clear hr0 hq0 h0 h1 h2 h3 h4 s1 s2 s4 hbx hb2 hS hW2
  go_enter Try.func7, Try.ntmps7
  go_wp2_with fail
  rw [← HW.out]
  refine (Few_any (fun _ => False) h _ _ ⟨_, rfl, HR.out⟩).mono ?_
  rintro e wn ⟨rfl, hSn⟩
  have HTi := Lib.hid (HT.out.trans hSn)
  clear hSn HT
  have HT := HTi
  clear HTi
  (try clear e0 e1 e2 e3 e4 f0 f1 f2 f3 f4 f5 y1 y2)
  obtain ⟨e0, e1, e2, e3, e4⟩ := cells5 (HB1.out.step HT.out)
  obtain ⟨f0, f1, f2, f3, f4, f5⟩ := cells6 (HB2.out.step HT.out)
  have y1 := (HB1.out.step HT.out).lt
  have y2 := (HB2.out.step HT.out).lt
  cases qf : few h with
  | false =>
    clear qf
    go_wp2_with fail
    refine (awake_any _).mono ?_
    rintro e wz ⟨rfl, hSz⟩
    go_wp2
    go_ret
    exact ⟨rfl, HS.out.trans (HT.out.trans hSz)⟩
  | true =>
  have HFEW := Lib.hid (fewB_of qf)
  clear qf
  go_wp2_with fail
  refine (thin_any (fun _ => False) b _ _ ⟨_, rfl, Rep.keep (.of_step HT.out) HQ.out⟩).mono ?_
  rintro e wn ⟨rfl, hSn⟩
  have HTi := Lib.hid (HT.out.trans hSn)
  clear hSn HT
  have HT := HTi
  clear HTi
  (try clear e0 e1 e2 e3 e4 f0 f1 f2 f3 f4 f5 y1 y2)
  obtain ⟨e0, e1, e2, e3, e4⟩ := cells5 (HB1.out.step HT.out)
  obtain ⟨f0, f1, f2, f3, f4, f5⟩ := cells6 (HB2.out.step HT.out)
  have y1 := (HB1.out.step HT.out).lt
  have y2 := (HB2.out.step HT.out).lt
  cases qt : thin b with
  | false =>
    clear qt
    go_wp2_with fail
    refine (awake_any _).mono ?_
    rintro e wz ⟨rfl, hSz⟩
    go_wp2
    go_ret
    exact ⟨rfl, HS.out.trans (HT.out.trans hSz)⟩
  | true =>
  have HTHIN := Lib.hid (thinP_of qt)
  clear qt
  (try clear e0 e1 e2 e3 e4 f0 f1 f2 f3 f4 f5 y1 y2)
  go_upto_region 3 with (fail)
  refine wp_region_seq (kdOf [1, 3, 7] []) [0, 1, 0, 7, 0, 0, 0, 127, 255, 511, 511, 1023, 4095] [0, 2, 4, 5, 6, 1, 3, 7, 8, 9, 10, 11, 12] [] (by kernel_rfl) (by kernel_rfl) (fun i T z hi hk => by simp [kdOf] at hk <;> (try (split at hk <;> cases hk))) ?_
  intro Wx hWx
  have HTx := Lib.hid (HT.out.trans hWx)
  clear hWx HT
  have HT := HTx
  clear HTx
  (try clear e0 e1 e2 e3 e4 f0 f1 f2 f3 f4 f5 y1 y2)
  obtain ⟨e0, e1, e2, e3, e4⟩ := cells5 (HB1.out.step HT.out)
  obtain ⟨f0, f1, f2, f3, f4, f5⟩ := cells6 (HB2.out.step HT.out)
  have y1 := (HB1.out.step HT.out).lt
  have y2 := (HB2.out.step HT.out).lt
  repeat (first | (refine run_off rfl rfl (by rfl) ?_; (try simp only [Act.put, List.setIfInBounds_toArray, List.set_cons_zero, List.set_cons_succ])) | (refine run_chain_off rfl rfl (by rfl) (K0_mono _) ?_; (try simp only [Act.put, List.setIfInBounds_toArray, List.set_cons_zero, List.set_cons_succ])) | ((refine run_want rfl rfl (by rfl) ⟨?_, fun W hW => ?_, ?_⟩; rotate_left; (· (have d0 := hW.keeps.cell id e0; have d1 := hW.keeps.cell id e1; have d2 := hW.keeps.cell id e2; have d3 := hW.keeps.cell id e3; have d4 := hW.keeps.cell id e4; have d5 := hW.keeps.cell id f0; have d6 := hW.keeps.cell id f1; have d7 := hW.keeps.cell id f2; have d8 := hW.keeps.cell id f3; have d9 := hW.keeps.cell id f4; have d10 := hW.keeps.cell id f5; go_simp; (try with_reducible rfl)))); (try simp only [Act.put, List.setIfInBounds_toArray, List.set_cons_zero, List.set_cons_succ])))
  refine run_chain rfl rfl (by rfl) (fun Wi hWi K' hK => ?_)
  have HTi := Lib.hid (HT.out.trans hWi)
  have HZW := Lib.hid HTi.out.size
  clear hWi HT
  go_simp
  refine (House_any _ h _ _ ⟨_, rfl, Rep.keep (.of_step HTi.out) HR.out⟩ HFEW.out).mono ?_
  rintro e wn ⟨v1a, rfl, hv1, hSn⟩
  have HT := Lib.hid (HTi.out.trans (StepX.of hSn))
  clear HTi
  have HV1 := Lib.hid (AV.triv hv1)
  clear hv1
  refine hK _ _ (StepX.of hSn) ?_
  clear hSn
  (try simp only [Act.put, List.setIfInBounds_toArray, List.set_cons_zero, List.set_cons_succ])
  repeat (first | (refine run_off rfl rfl (by rfl) ?_; (try simp only [Act.put, List.setIfInBounds_toArray, List.set_cons_zero, List.set_cons_succ])) | (refine run_chain_off rfl rfl (by rfl) (K0_mono _) ?_; (try simp only [Act.put, List.setIfInBounds_toArray, List.set_cons_zero, List.set_cons_succ])) | ((refine run_want rfl rfl (by rfl) ⟨?_, fun W hW => ?_, ?_⟩; rotate_left; (· (skip; go_simp; (try with_reducible rfl)))); (try simp only [Act.put, List.setIfInBounds_toArray, List.set_cons_zero, List.set_cons_succ])))
  refine run_chain rfl rfl (by rfl) (fun Wi hWi K' hK => ?_)
  have HTi := Lib.hid (HT.out.trans hWi)
  have HV1i := Lib.hid (HV1.out.keep (.of_step hWi))
  clear hWi HT HV1
  go_simp
  refine (Book_any _ b _ _ ⟨_, rfl, Rep.keep (.of_step HTi.out) HQ.out⟩ HTHIN.out).mono ?_
  rintro e wn2 ⟨v2a, rfl, hv2, hSn⟩
  have HV2 := Lib.hid (AV.triv hv2)
  have HV1 := Lib.hid (HV1i.out.keep (.of_step hSn))
  have HT := Lib.hid (HTi.out.trans hSn)
  clear hv2 HV1i HTi
  refine hK _ _ (StepX.of hSn) ?_
  clear hSn hK
  (try simp only [Act.put, List.setIfInBounds_toArray, List.set_cons_zero, List.set_cons_succ])
  repeat (first | (refine run_off rfl rfl (by rfl) ?_; (try simp only [Act.put, List.setIfInBounds_toArray, List.set_cons_zero, List.set_cons_succ])) | (refine run_chain_off rfl rfl (by rfl) (K0_mono _) ?_; (try simp only [Act.put, List.setIfInBounds_toArray, List.set_cons_zero, List.set_cons_succ])) | ((refine run_want rfl rfl (by rfl) ⟨?_, fun W hW => ?_, ?_⟩; rotate_left; (· (skip; go_simp; (try with_reducible rfl)))); (try simp only [Act.put, List.setIfInBounds_toArray, List.set_cons_zero, List.set_cons_succ])))
  refine run_chain rfl rfl (by rfl) (fun Wi hWi K' hK => ?_)
  have HTi := Lib.hid (HT.out.trans hWi)
  have HV1i := Lib.hid (HV1.out.keep (.of_step hWi))
  have HV2i := Lib.hid (HV2.out.keep (.of_step hWi))
  clear hWi HT HV1 HV2
  go_simp
  refine (Free_any _ h b _ _ s c d _ HV1i.out HV2i.out).mono ?_
  rintro e w6 ⟨l6, rfl, hl6, hS6⟩
  obtain ⟨la, hla⟩ : ∃ x, x = restOf [] (gate h b (freeD h b s c d)) := ⟨_, rfl⟩
  obtain ⟨ea, hea⟩ : ∃ x, x = (actR (bookOf (gate h b (freeD h b s c d)))).2 := ⟨_, rfl⟩
  rw [← hla] at hl6
  rw [← hea]
  have HLAE := Lib.hid hla
  have HEA := Lib.hid hea
  obtain ⟨rl, nl, rfl⟩ := hl6.form
  have HLA := Lib.hid (SL.weak (T := fun _ => False) (fun _ _ h => h.elim) hl6)
  have HT := Lib.hid (HTi.out.trans hS6)
  clear hla hea hl6 HTi HV1i HV2i
  refine hK _ _ (StepX.of hS6) ?_
  clear hS6 hK
  (try simp only [Act.put, List.setIfInBounds_toArray, List.set_cons_zero, List.set_cons_succ])
  repeat (first | (refine run_off rfl rfl (by rfl) ?_; (try simp only [Act.put, List.setIfInBounds_toArray, List.set_cons_zero, List.set_cons_succ])) | (refine run_chain_off rfl rfl (by rfl) (K0_mono _) ?_; (try simp only [Act.put, List.setIfInBounds_toArray, List.set_cons_zero, List.set_cons_succ])) | ((refine run_want rfl rfl (by rfl) ⟨?_, fun W hW => ?_, ?_⟩; rotate_left; (· (skip; go_simp; (try with_reducible rfl)))); (try simp only [Act.put, List.setIfInBounds_toArray, List.set_cons_zero, List.set_cons_succ])))
  refine run_end (L := []) rfl (fun W6a hW6 => ?_)
  have HLA := Lib.hid (HLA.out.keep (.of_step hW6))
  have HT6 := Lib.hid (HT.out.trans hW6)
  clear hW6 HT
  have HT := HT6
  clear HT6
  have hb1 := HB1.out.step HT.out
  have hb2 := HB2.out.step HT.out
  have hr1 := Rep.keep (S := fun _ => False) (.of_step HT.out) HR.out
  have hq1 := Rep.keep (S := fun _ => False) (.of_step HT.out) HQ.out
  have hs1 := HS.out.trans HT.out
  clear HB1 HB2 HR HQ HS HT
  have HB1 := Lib.hid hb1
  have HB2 := Lib.hid hb2
  have HR := Lib.hid hr1
  have HQ := Lib.hid hq1
  have HS := Lib.hid hs1
  have HT := Lib.hid (Step.refl W6a)
  clear hb1 hb2 hr1 hq1 hs1
  go_upto_region 4 with (fail)
  refine wp_region_seq (kdOf [1, 3, 4] []) [0, 1, 0, 7, 15, 31, 63, 63, 127, 511] [0, 2, 1, 3, 4, 5, 6, 7, 8, 9] [] (by kernel_rfl) (by kernel_rfl) (fun i T z hi hk => by simp [kdOf] at hk <;> (try (split at hk <;> cases hk))) ?_
  intro Wx hWx
  have HTx := Lib.hid (HT.out.trans hWx)
  clear hWx HT
  have HT := HTx
  clear HTx
  (try clear e0 e1 e2 e3 e4 f0 f1 f2 f3 f4 f5 y1 y2)
  obtain ⟨e0, e1, e2, e3, e4⟩ := cells5 (HB1.out.step HT.out)
  obtain ⟨f0, f1, f2, f3, f4, f5⟩ := cells6 (HB2.out.step HT.out)
  have y1 := (HB1.out.step HT.out).lt
  have y2 := (HB2.out.step HT.out).lt
  repeat (first | (refine run_off rfl rfl (by rfl) ?_; (try simp only [Act.put, List.setIfInBounds_toArray, List.set_cons_zero, List.set_cons_succ])) | (refine run_chain_off rfl rfl (by rfl) (K0_mono _) ?_; (try simp only [Act.put, List.setIfInBounds_toArray, List.set_cons_zero, List.set_cons_succ])) | ((refine run_want rfl rfl (by rfl) ⟨?_, fun W hW => ?_, ?_⟩; rotate_left; (· (have d0 := hW.keeps.cell id e0; have d1 := hW.keeps.cell id e1; have d2 := hW.keeps.cell id e2; have d3 := hW.keeps.cell id e3; have d4 := hW.keeps.cell id e4; have d5 := hW.keeps.cell id f0; have d6 := hW.keeps.cell id f1; have d7 := hW.keeps.cell id f2; have d8 := hW.keeps.cell id f3; have d9 := hW.keeps.cell id f4; have d10 := hW.keeps.cell id f5; go_simp; (try with_reducible rfl)))); (try simp only [Act.put, List.setIfInBounds_toArray, List.set_cons_zero, List.set_cons_succ])))
  refine run_chain rfl rfl (by rfl) (fun Wi hWi K' hK => ?_)
  have HTi := Lib.hid (HT.out.trans hWi)
  have HZW := Lib.hid HTi.out.size
  clear hWi HT
  go_simp
  refine (House_any _ h _ _ ⟨_, rfl, Rep.keep (.of_step HTi.out) HR.out⟩ HFEW.out).mono ?_
  rintro e wn ⟨v1b, rfl, hv1, hSn⟩
  have HT := Lib.hid (HTi.out.trans (StepX.of hSn))
  clear HTi
  have HV1 := Lib.hid (AV.triv hv1)
  clear hv1
  refine hK _ _ (StepX.of hSn) ?_
  clear hSn
  (try simp only [Act.put, List.setIfInBounds_toArray, List.set_cons_zero, List.set_cons_succ])
  repeat (first | (refine run_off rfl rfl (by rfl) ?_; (try simp only [Act.put, List.setIfInBounds_toArray, List.set_cons_zero, List.set_cons_succ])) | (refine run_chain_off rfl rfl (by rfl) (K0_mono _) ?_; (try simp only [Act.put, List.setIfInBounds_toArray, List.set_cons_zero, List.set_cons_succ])) | ((refine run_want rfl rfl (by rfl) ⟨?_, fun W hW => ?_, ?_⟩; rotate_left; (· (skip; go_simp; (try with_reducible rfl)))); (try simp only [Act.put, List.setIfInBounds_toArray, List.set_cons_zero, List.set_cons_succ])))
  refine run_chain rfl rfl (by rfl) (fun Wi hWi K' hK => ?_)
  have HTi := Lib.hid (HT.out.trans hWi)
  have HV1i := Lib.hid (HV1.out.keep (.of_step hWi))
  clear hWi HT HV1
  go_simp
  refine (Book_any _ b _ _ ⟨_, rfl, Rep.keep (.of_step HTi.out) HQ.out⟩ HTHIN.out).mono ?_
  rintro e wn2 ⟨v2b, rfl, hv2, hSn⟩
  have HV2 := Lib.hid (AV.triv hv2)
  have HV1 := Lib.hid (HV1i.out.keep (.of_step hSn))
  have HT := Lib.hid (HTi.out.trans hSn)
  clear hv2 HV1i HTi
  refine hK _ _ (StepX.of hSn) ?_
  clear hSn hK
  (try simp only [Act.put, List.setIfInBounds_toArray, List.set_cons_zero, List.set_cons_succ])
  repeat (first | (refine run_off rfl rfl (by rfl) ?_; (try simp only [Act.put, List.setIfInBounds_toArray, List.set_cons_zero, List.set_cons_succ])) | (refine run_chain_off rfl rfl (by rfl) (K0_mono _) ?_; (try simp only [Act.put, List.setIfInBounds_toArray, List.set_cons_zero, List.set_cons_succ])) | ((refine run_want rfl rfl (by rfl) ⟨?_, fun W hW => ?_, ?_⟩; rotate_left; (· (skip; go_simp; (try with_reducible rfl)))); (try simp only [Act.put, List.setIfInBounds_toArray, List.set_cons_zero, List.set_cons_succ])))
  refine run_chain rfl rfl (by rfl) (fun Wi hWi K' hK => ?_)
  have HTi := Lib.hid (HT.out.trans hWi)
  have HV1i := Lib.hid (HV1.out.keep (.of_step hWi))
  have HV2i := Lib.hid (HV2.out.keep (.of_step hWi))
  clear hWi HT HV1 HV2
  go_simp
  refine (Counts_any _ h b _ _ _ HV1i.out HV2i.out).mono ?_
  rintro e w6 ⟨l6, rfl, hl6, hS6⟩
  obtain ⟨lc, hlc⟩ : ∃ x, x = countsR h b := ⟨_, rfl⟩
  obtain ⟨ec, hec⟩ : ∃ x, x = checkR h b := ⟨_, rfl⟩
  rw [← hlc] at hl6
  rw [← hec]
  have HLCE := Lib.hid hlc
  have HEC := Lib.hid hec
  obtain ⟨rc, nc, rfl⟩ := hl6.form
  have HLC := Lib.hid (SL.weak (T := fun _ => False) (fun _ _ h => h.elim) hl6)
  have HT := Lib.hid (HTi.out.trans hS6)
  clear hlc hec hl6 HTi HV1i HV2i
  refine hK _ _ (StepX.of hS6) ?_
  clear hS6 hK
  (try simp only [Act.put, List.setIfInBounds_toArray, List.set_cons_zero, List.set_cons_succ])
  repeat (first | (refine run_off rfl rfl (by rfl) ?_; (try simp only [Act.put, List.setIfInBounds_toArray, List.set_cons_zero, List.set_cons_succ])) | (refine run_chain_off rfl rfl (by rfl) (K0_mono _) ?_; (try simp only [Act.put, List.setIfInBounds_toArray, List.set_cons_zero, List.set_cons_succ])) | ((refine run_want rfl rfl (by rfl) ⟨?_, fun W hW => ?_, ?_⟩; rotate_left; (· (skip; go_simp; (try with_reducible rfl)))); (try simp only [Act.put, List.setIfInBounds_toArray, List.set_cons_zero, List.set_cons_succ])))
  have HLA := Lib.hid (HLA.out.keep (.of_step HT.out))
  refine run_end (L := []) rfl (fun W7 hW6 => ?_)
  have HLA := Lib.hid (HLA.out.keep (.of_step hW6))
  have HLC := Lib.hid (HLC.out.keep (.of_step hW6))
  have HT6 := Lib.hid (HT.out.trans hW6)
  clear hW6 HT
  have HT := HT6
  clear HT6
  have hb1 := HB1.out.step HT.out
  have hb2 := HB2.out.step HT.out
  have hr1 := Rep.keep (S := fun _ => False) (.of_step HT.out) HR.out
  have hq1 := Rep.keep (S := fun _ => False) (.of_step HT.out) HQ.out
  have hs1 := HS.out.trans HT.out
  clear HB1 HB2 HR HQ HS HT
  have HB1 := Lib.hid hb1
  have HB2 := Lib.hid hb2
  have HR := Lib.hid hr1
  have HQ := Lib.hid hq1
  have HS := Lib.hid hs1
  have HT := Lib.hid (Step.refl W7)
  clear hb1 hb2 hr1 hq1 hs1
  go_upto_region 5 with (fail)
  (try clear e0 e1 e2 e3 e4 f0 f1 f2 f3 f4 f5 y1 y2)
  obtain ⟨e0, e1, e2, e3, e4⟩ := cells5 (HB1.out.step HT.out)
  obtain ⟨f0, f1, f2, f3, f4, f5⟩ := cells6 (HB2.out.step HT.out)
  have y1 := (HB1.out.step HT.out).lt
  have y2 := (HB2.out.step HT.out).lt
  go_wp2_with fail
  refine (wrong_any (fun _ => False) h b _ _ _ ⟨_, rfl, Rep.keep (.of_step HT.out) HR.out⟩ ⟨_, rfl, Rep.keep (.of_step HT.out) HQ.out⟩).mono ?_
  rintro e wn3 ⟨rfl, hSn⟩
  have HTn := Lib.hid (HT.out.trans hSn)
  clear hSn HT
  have HT := HTn
  clear HTn
  (try clear e0 e1 e2 e3 e4 f0 f1 f2 f3 f4 f5 y1 y2)
  cases qw : wrongB h b with
  | true =>
    obtain rfl : la = [] := by rw [HLAE.out, gate_wrong qw]; rfl
    obtain rfl : ea = 1 := by rw [HEA.out, gate_wrong qw]; rfl
    have hck : checkR h b = 1 := by unfold checkR; rw [wrong_yes qw]; rfl
    obtain rfl : ec = 1 := by rw [HEC.out, hck]
    obtain rfl : lc = [] := by rw [HLCE.out]; unfold countsR; rw [hck]; rfl
    clear qw hck HLAE HEA HLCE HEC
    go_wp2_with fail
    refine (awake_any _).mono ?_
    rintro e wz ⟨rfl, hSz⟩
    go_wp2
    go_ret
    exact ⟨rfl, HS.out.trans (HT.out.trans hSz)⟩
  | false =>
    obtain ⟨hvalid, hbook⟩ := wrong_no qw
    have hck : checkR h b = 0 := by unfold checkR; rw [hvalid, hbook]; rfl
    obtain rfl : ec = 0 := by rw [HEC.out, hck]
    have hlc : lc = countsL h b := by rw [HLCE.out]; unfold countsR; rw [hck]; rfl
    have hla : la = restOf [] (freeD h b s c d) := by rw [HLAE.out, gate_right qw]
    have hea : ea = (actR (bookOf (freeD h b s c d))).2 := by rw [HEA.out, gate_right qw]
    have HLAE := Lib.hid hla
    have HEA := Lib.hid hea
    have HVAL := Lib.hid (And.intro hvalid hbook)
    have HLCE := Lib.hid hlc
    clear qw hck HEC hla hea hvalid hbook hlc
    (try clear e0 e1 e2 e3 e4 f0 f1 f2 f3 f4 f5 y1 y2)
    obtain ⟨e0, e1, e2, e3, e4⟩ := cells5 (HB1.out.step HT.out)
    obtain ⟨f0, f1, f2, f3, f4, f5⟩ := cells6 (HB2.out.step HT.out)
    have y1 := (HB1.out.step HT.out).lt
    have y2 := (HB2.out.step HT.out).lt
    go_wp2_with fail
    refine (RCounts_any (fun _ => False) h b _ _ _ ⟨_, rfl, Rep.keep (.of_step HT.out) HR.out⟩ ⟨_, rfl, Rep.keep (.of_step HT.out) HQ.out⟩ HVAL.out.1 HVAL.out.2).mono ?_
    rintro e wn4 ⟨vx, rfl, hvx, hSn⟩
    rw [← HLCE.out] at hvx
    have HTn := Lib.hid (HT.out.trans hSn)
    clear hSn HT
    have HT := HTn
    clear HTn
    (try clear e0 e1 e2 e3 e4 f0 f1 f2 f3 f4 f5 y1 y2)
    obtain ⟨pa, ca, ba, oa, hva, _, hma, hpa, hca, _⟩ := (HLC.out.keep (.of_step HT.out)).rows
    injection hva with hva1 _ hva3
    subst hva1 hva3
    obtain ⟨pb, cb, bb, ob, rfl, _, _, hpb, hcb, _⟩ := hvx.rows
    have HMA := Lib.hid (And.intro hpa hca)
    have HMB := Lib.hid (And.intro hpb hcb)
    have HLA := Lib.hid (HLA.out.keep (.of_step HT.out))
    clear hpa hca hpb hcb hvx
    have hne2 : ((lc.length : Int) != (lc.length : Int)) = false := by simp
    have HT0 := Lib.hid (Step.refl wn4)
    go_wp2
    go_loopw [16] (fun i wr => ∃ k : Nat, k ≤ lc.length ∧ i = .int .i64 k ∧ Step wn4 wr) (fun i _ => lc.length - (intOf i).toNat)
    case atStart => exact ⟨0, Nat.zero_le _, rfl, HT0.out⟩
    case round =>
      obtain ⟨k, hk, rfl, hT⟩ := hrel
      have HTr := Lib.hid hT
      clear hT
      by_cases hlt : k < lc.length
      · obtain rfl := HMA.out.1 (by omega)
        obtain rfl := HMB.out.1 (by omega)
        obtain ⟨ua, a0, a1⟩ := HMA.out.2 k hlt
        obtain ⟨ub, b0, b1⟩ := HMB.out.2 k hlt
        obtain ⟨R, hR⟩ : ∃ R, R = lc[k] := ⟨_, rfl⟩
        rw [← hR] at a1 b1
        clear hR
        obtain ⟨p3, c3, b3, o3, rfl, _, hm3, hp3, hc3, _⟩ := a1.counts
        obtain ⟨p4, c4, b4, o4, rfl, _, _, hp4, hc4, _⟩ := b1.counts
        have HCA := Lib.hid (And.intro hp3 hc3)
        have HCB := Lib.hid (And.intro hp4 hc4)
        have HA0 := Lib.hid a0
        have HB0 := Lib.hid b0
        clear a1 b1 hp3 hc3 hp4 hc4 a0 b0
        have a0 := HTr.out.keeps.cell id HA0.out
        have b0 := HTr.out.keeps.cell id HB0.out
        have hix : (0 : Int) ≤ (k : Int) ∧ (k : Int) < (lc.length : Int) := by omega
        have hne3 : ((R.length : Int) != (R.length : Int)) = false := by simp
        go_wp2
        go_quiet (fail)
        clear a0 b0
        obtain ⟨wo, hwo⟩ : ∃ W, W = wr := ⟨_, rfl⟩
        subst hwo
        go_wp2
        go_loopw [17] (fun i wi => ∃ j : Nat, j ≤ R.length ∧ i = .int .i64 j ∧ Step wn4 wi) (fun i _ => R.length - (intOf i).toNat)
        case atStart => exact ⟨0, Nat.zero_le _, rfl, HTr.out.trans (Step.drewN _ _)⟩
        case round =>
          obtain ⟨j, hj, rfl, hT⟩ := hrel
          have HTj := Lib.hid hT
          clear hT
          have a0 := HTj.out.keeps.cell id HA0.out
          have b0 := HTj.out.keeps.cell id HB0.out
          by_cases hltj : j < R.length
          · obtain rfl := HCA.out.1 (by omega)
            obtain rfl := HCB.out.1 (by omega)
            obtain ⟨n0, n1⟩ := HCA.out.2 j hltj
            obtain ⟨n2, n3⟩ := HCB.out.2 j hltj
            have n0 := HTj.out.keeps.cell id n0
            have n1 := HTj.out.keeps.cell id n1
            have n2 := HTj.out.keeps.cell id n2
            have n3 := HTj.out.keeps.cell id n3
            have hjx : (0 : Int) ≤ (j : Int) ∧ (j : Int) < (R.length : Int) := by omega
            go_wp2
            go_quiet (fail)
            go_wp2
            go_roundw
            case rel => exact ⟨j + 1, by omega, by go_num, HTj.out.trans (Step.drewN _ _)⟩
            case measure => simp [intOf]; omega
          · go_wp2
            go_roundw
            case rel => exact ⟨k + 1, by omega, by go_num, HTj.out⟩
            case measure => simp [intOf]; omega
      · have HTx := Lib.hid (HT.out.trans HTr.out)
        clear HT
        have HT := HTx
        clear HTx
        have hbv := bounds_valid HVAL.out.1
        have hw1 : IntKind.i64.wrap ((h.dates.length : Int) - 1) = (h.dates.length : Int) - 1 := by rw [IntKind.wrap_i64]; omega
        have hpl := prices5 HVAL.out.1
        have hw2 : IntKind.i64.wrap ((h.prices.length : Int) - 1) = (h.prices.length : Int) - 1 := by rw [IntKind.wrap_i64]; omega
        clear hbv hpl
        (try clear e0 e1 e2 e3 e4 f0 f1 f2 f3 f4 f5 y1 y2)
        obtain ⟨e0, e1, e2, e3, e4⟩ := cells5 (HB1.out.step HT.out)
        obtain ⟨f0, f1, f2, f3, f4, f5⟩ := cells6 (HB2.out.step HT.out)
        have y1 := (HB1.out.step HT.out).lt
        have y2 := (HB2.out.step HT.out).lt
        go_wp2_with fail
        refine (bigtopref08.In_any _ _ _ _).mono ?_
        rintro e w' ⟨rfl, rfl⟩
        cases q1 : withinB s 0 ((h.dates.length : Int) - 1) with
        | false =>
          have hno := freeD_no (h := h) (b := b) (s := s) (c := c) (d := d) (by simp [freeOk, q1])
          obtain rfl : la = [] := by rw [HLAE.out, hno]; rfl
          obtain rfl : ea = 2 := by rw [HEA.out, hno]; rfl
          clear q1 hno HLAE HEA
          go_wp2_with fail
          refine (awake_any _).mono ?_
          rintro e wz ⟨rfl, hSz⟩
          go_wp2
          go_ret
          exact ⟨rfl, HS.out.trans (HT.out.trans hSz)⟩
        | true =>
          go_wp2_with fail
          refine (bigtopref08.In_any _ _ _ _).mono ?_
          rintro e w' ⟨rfl, rfl⟩
          cases q2 : withinB c 0 ((h.prices.length : Int) - 1) with
          | false =>
            have hno := freeD_no (h := h) (b := b) (s := s) (c := c) (d := d) (by simp [freeOk, q2])
            obtain rfl : la = [] := by rw [HLAE.out, hno]; rfl
            obtain rfl : ea = 2 := by rw [HEA.out, hno]; rfl
            clear q1 q2 hno HLAE HEA
            go_wp2_with fail
            refine (awake_any _).mono ?_
            rintro e wz ⟨rfl, hSz⟩
            go_wp2
            go_ret
            exact ⟨rfl, HS.out.trans (HT.out.trans hSz)⟩
          | true =>
            go_wp2_with fail
            refine (bigtopref08.In_any _ _ _ _).mono ?_
            rintro e w' ⟨rfl, rfl⟩
            cases q3 : withinB d 0 1000 with
            | false =>
              have hno := freeD_no (h := h) (b := b) (s := s) (c := c) (d := d) (by simp [freeOk, q3])
              obtain rfl : la = [] := by rw [HLAE.out, hno]; rfl
              obtain rfl : ea = 2 := by rw [HEA.out, hno]; rfl
              clear q1 q2 q3 hno HLAE HEA
              go_wp2_with fail
              refine (awake_any _).mono ?_
              rintro e wz ⟨rfl, hSz⟩
              go_wp2
              go_ret
              exact ⟨rfl, HS.out.trans (HT.out.trans hSz)⟩
            | true =>
              have hyes := freeD_yes (h := h) (b := b) (s := s) (c := c) (d := d) (by simp [freeOk, q1, q2, q3])
              have hla : la = openL h b s c d := by rw [HLAE.out, hyes]; rfl
              obtain rfl : ea = 0 := by rw [HEA.out, hyes]; rfl
              obtain ⟨i, rfl, hi0, hi1⟩ := within_nat q1 (by omega)
              have hil : i < h.dates.length := by omega
              have HLE := Lib.hid hla
              clear q1 q2 q3 hyes HLAE HEA hla hi0 hi1
              go_wp2_with fail
              refine (RFree_any (fun _ => False) h b _ _ i c d _ ⟨_, rfl, Rep.keep (.of_step HT.out) HR.out⟩ ⟨_, rfl, Rep.keep (.of_step HT.out) HQ.out⟩ HVAL.out.1 HVAL.out.2 hil).mono ?_
              rintro e wn5 ⟨vf, rfl, hvf, hSn⟩
              rw [← HLE.out] at hvf
              have HLA2 := Lib.hid ((HLA.out.keep (.of_step HTr.out)).keep (.of_step hSn))
              have HVF := Lib.hid (SL.weak (T := fun _ => False) (fun _ _ h => h.elim) hvf)
              clear hvf
              have HTn := Lib.hid (HT.out.trans hSn)
              clear hSn HT
              have HT := HTn
              clear HTn
              go_wp2_with fail
              refine (ints_any (fun _ => False) la la _ _ _ HLA2.out HVF.out).mono ?_
              rintro e wn6 ⟨rfl, hSn⟩
              rw [ints_self]
              have HTn := Lib.hid (HT.out.trans hSn)
              clear hSn HT
              have HT := HTn
              clear HTn
              go_wp2_with fail
              refine (awake_any _).mono ?_
              rintro e wz ⟨rfl, hSz⟩
              go_wp2
              go_ret
              exact ⟨rfl, HS.out.trans (HT.out.trans hSz)⟩
end Go.Proofs.Ytbgfmikbhiblgaa
/- TicketCounts: of every input the law answers true, and its arguments read as they did. -/
namespace Go.Proofs.Ytbgfmikbhiblgaa.counts
open Go.ChangeShapes Go.WideShapes Go.ChangeAt Go.RowKit Go.BT
set_option linter.unusedVariables false
set_option linter.unusedSimpArgs false

set_option maxRecDepth 100000 in
theorem lifted (os : Os) (started : os.Started) (H : Type) (enc : TypeId × Value → H) :
    ReturnsInHanded {} Try.checked os 7 .any (Rows.ticketCountsSpec.pre6 enc Try.prog Try.f7 Rows.ticketCountsRow.domain false) (Rows.ticketCountsSpec.post enc Try.prog Try.f7 false true false false) := by
  refine returnsInHanded_of_change (C := Try.checked) own started (by kernel_rfl) Try.func7
    (ChangeSpec.witness6 (enc := enc) (C := Try.checked) false ⟨#[], #[.agg #[.slice none 0 0, .slice none 0 0, .slice none 0 0, .slice none 0 0, .slice none 0 0], .agg #[.int .i64 0, .slice none 0 0, .slice none 0 0, .int .i64 0, .slice none 0 0, .int .i64 0], .int .i64 0, .int .i64 0, .int .i64 0], []⟩ 8 (by kernel_rfl) (by kernel_rfl) (by kernel_rfl) (by kernel_rfl)) ?_
  intro W base args ds gs before hval0 hW hcnd _
  have hval : ∀ (j : Nat) t v, Try.f7.params[j]? = some t → args[j]? = some v → Value.okWide Try.prog W .any base t v := hval0
  have hW' := hW
  obtain ⟨p, q, hA0, hV, rfl, hfz, hnd⟩ := hW
  have hA : DataW.TrodAll enc Try.prog W 0 (fun _ => true) true Try.f7.params.toList args.toList ds p := hA0
  have hAk := hA
  rw [Try.params7] at hA hval
  obtain ⟨v0, vs0, d0, ds0, p0, q0, hargs, rfl, rfl, h0, r0⟩ := trodAll_cons hA
  obtain ⟨v1, vs1, d1, ds1, p1, q1, rfl, rfl, rfl, h1, r1⟩ := trodAll_cons r0
  obtain ⟨v2, vs2, d2, ds2, p2, q2, rfl, rfl, rfl, h2, r2⟩ := trodAll_cons r1
  obtain ⟨v3, vs3, d3, ds3, p3, q3, rfl, rfl, rfl, h3, r3⟩ := trodAll_cons r2
  obtain ⟨v4, vs4, d4, ds4, p4, q4, rfl, rfl, rfl, h4, r4⟩ := trodAll_cons r3
  obtain ⟨rfl, rfl, rfl⟩ := trodAll_nil r4
  obtain rfl : args = #[v0, v1, v2, v3, v4] := by cases args; simp_all
  obtain ⟨rfl, rfl⟩ := trodVars_none hV
  obtain ⟨a0, hh0⟩ := av_of opens_House Try.underlying26 (hval 0 26 v0 rfl rfl) h0
  obtain ⟨a1, hh1⟩ := av_of opens_Book Try.underlying30 (hval 1 30 v1 rfl rfl) h1
  obtain ⟨a2, rfl, rfl, rfl, w2⟩ := open_int Try.underlying3 (hval 2 3 v2 rfl rfl) h2
  obtain ⟨a3, rfl, rfl, rfl, w3⟩ := open_int Try.underlying3 (hval 3 3 v3 rfl rfl) h3
  obtain ⟨a4, rfl, rfl, rfl, w4⟩ := open_int Try.underlying3 (hval 4 3 v4 rfl rfl) h4
  clear hA0 hval0
  refine (TicketCounts_any a0 a1 a2 a3 a4 v0 v1 W hh0 hh1).mono fun e W' ⟨he, hg⟩ => ?_
  subst he
  have hlt := hW'.lt
  refine ⟨_, rfl, post_of_below (pv := []) hW' (fun _ _ _ => (trodAll_cons_mk (shut_bool Try.underlying4 _) trodAll_mk0)) (fun sp hs => all_stays laid hg.below (fun t ht => ?_) hAk (fun x hx => hlt x (by simpa using hx)) (fun x hx => hs x (by simpa using hx))) (fun _ _ => rfl) rfl hg.below (ok_one (by kernel_rfl) rfl (okWide_bool_mk Try.underlying4 _))⟩
  rw [Try.params7] at ht
  have : ∀ t ∈ [26, 30, 3, 3, 3], Try.prog.readableRec t = true ∧ t < Try.prog.types.size := by
    intro t ht
    simp only [List.mem_cons, List.not_mem_nil, or_false] at ht
    rcases ht with rfl | rfl | rfl | rfl | rfl <;> exact ⟨by kernel_rfl, of_decide_eq_true (by kernel_rfl)⟩
  exact this t ht

theorem over : Rows.ticketCountsRow.holds Try.pinned (OpenSpec.ofChange Rows.ticketCountsSpec) :=
  OpenClaim.holds_of_wide 7 Try.f7 rfl rfl rfl rfl rfl rfl rfl ⟨rfl, rfl, rfl, rfl, rfl⟩ rfl rfl rfl rfl rfl (by kernel_rfl) Try.func7 (by kernel_rfl)
    (of_decide_eq_true (by kernel_rfl)) (by unfold Func.isWrapper; first | (rw [if_pos (by decide +kernel)]; kernel_rfl) | (rw [if_neg (by decide +kernel)]; exact ⟨rfl, rfl⟩))
    (fun os started H enc _ => lifted os started H enc)
theorem proved : Rows.TicketCountsSaid := over
end Go.Proofs.Ytbgfmikbhiblgaa.counts
