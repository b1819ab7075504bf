/- Walks and plain laws, part m. -/
import Derived.Test.YtgpiieogiafdoaaMc
import Derived.Test.YtgpiieogiafdoaaMe
import Derived.Test.YtgpiieogiafdoaaMf
import Derived.Test.YtgpiieogiafdoaaMi
import Derived.Test.YtgpiieogiafdoaaMl
/- Walks: the law TicketMoved: it answers true. -/
namespace Go.Proofs.Ytgpiieogiafdoaa
set_option linter.unusedSimpArgs false
set_option linter.unusedVariables false
open Go.RowKit Go.BT
set_option maxRecDepth 100000 in
set_option maxHeartbeats 8000000 in
theorem TicketMoved_any (h : House) (l : List ActT) (g1 s dd : Int) (v u : Value) (w : World) (hv : AV (fun _ => False) w v h) (hu : SL (fun _ => False) w u l) (w1 : (Lit.int .u8 g1).wf = true) :
    Calls Try.prog 4 #[v, u, .int .u8 g1, .int .i64 s, .int .i64 dd] w fun e w' => e = .returned (.bool true) ∧ Step w w' := by
  obtain ⟨c0, c1, c2, c3, c4, rfl, h0, h1, h2, h3, h4⟩ := hv.house
  obtain ⟨p0, k0, rfl⟩ := h0.form
  obtain ⟨p1, k1, rfl⟩ := h1.form
  obtain ⟨p2, k2, rfl⟩ := h2.form
  obtain ⟨p3, k3, rfl⟩ := h3.form
  obtain ⟨p4, k4, rfl⟩ := h4.form
  obtain ⟨pu, ku, rfl⟩ := hu.form
  obtain ⟨W0, hW0⟩ : ∃ W0, W0 = w.alloc (.cells #[.slice p0 h.sectors.length k0, .slice p1 h.prices.length k1, .slice p2 h.dates.length k2, .slice p3 h.frm.length k3, .slice p4 h.holds.length k4] 26) := ⟨_, rfl⟩
  have hS : Step w W0 := by subst hW0; exact Step.alloc _ _
  have hb0 : Bx W0 w.heap.size [.slice p0 h.sectors.length k0, .slice p1 h.prices.length k1, .slice p2 h.dates.length k2, .slice p3 h.frm.length k3, .slice p4 h.holds.length k4] 26 := by subst hW0; exact Bx.new _ [_, _, _, _, _] _
  have HH := Lib.hid (hv.keep (.of_step hS))
  have HU := Lib.hid (hu.keep (.of_step hS))
  have HPR := Lib.hid (h1.keep (.of_step hS))
  have HS := Lib.hid hS
  have HB := Lib.hid hb0
  have HW := Lib.hid hW0
  clear hv hu hS hb0 hW0 h0 h1 h2 h3 h4
  have HG := Lib.hid w1
  clear w1
  go_enter Try.func4, Try.ntmps4
  go_upto_region 1 with (fail)
  rw [← HW.out]
  clear HW
  obtain ⟨e0, e1, e2, e3, e4⟩ := cells5 HB.out
  go_wp2_with fail
  refine (may_any (fun _ => False) h l _ _ _ HH.out HU.out).mono ?_
  rintro e wn ⟨rfl, hSn⟩
  have HT := Lib.hid hSn
  clear hSn e0 e1 e2 e3 e4
  cases qm : mayB h l with
  | false =>
    clear qm
    go_wp2_with fail
    refine (awake_any _).mono ?_
    rintro e wz ⟨rfl, hSz⟩
    go_wp2
    go_ret
    exact ⟨rfl, HS.out.trans (HT.out.trans hSz)⟩
  | true =>
  have HM := Lib.hid qm
  clear qm
  obtain ⟨e0, e1, e2, e3, e4⟩ := cells5 (HB.out.step HT.out)
  go_wp2_with fail
  refine (ran_any (fun _ => False) h l _ _ _ (HH.out.keep (.of_step HT.out)) (HU.out.keep (.of_step HT.out)) HM.out).mono ?_
  rintro e w2 ⟨vw, rfl, hvw, hSn⟩
  obtain ⟨b0, b1, rfl, s0, s1⟩ := hvw.wd
  obtain ⟨q0, r0, rfl⟩ := s0.form
  obtain ⟨q1, r1, rfl⟩ := s1.form
  have HV := Lib.hid (may_parts HM.out)
  have HI := Lib.hid (world_inv HV.out.1 l l.length)
  have HTO := Lib.hid (fun i => took_le HV.out.1 l l.length i)
  have HLE := Lib.hid (msgs_le HV.out.1 l l.length)
  obtain ⟨W, hW⟩ : ∃ W, W = worldAt h l l.length := ⟨_, rfl⟩
  rw [← hW] at s0 s1 HI HTO HLE ⊢
  have HSB := Lib.hid (And.intro s0 s1)
  have HT2 := Lib.hid (HT.out.trans hSn)
  clear HT s0 s1 hvw hSn hW e0 e1 e2 e3 e4
  have HT := HT2
  clear HT2
  obtain ⟨lm, hlm⟩ : ∃ n, n = W.msgs.length := ⟨_, rfl⟩
  rw [← hlm]
  have HLM := Lib.hid hlm
  clear hlm
  go_upto_region 4 with (fail)
  obtain ⟨W3, hW3⟩ : ∃ W3, W3 = w2.alloc (.cells #[.slice q0 W.books.length r0, .slice q1 lm r1] 33) := ⟨_, rfl⟩
  have hb3 : Bx W3 w2.heap.size [.slice q0 W.books.length r0, .slice q1 lm r1] 33 := by subst hW3; exact Bx.new _ [_, _] _
  have hS3 : Step w2 W3 := by subst hW3; exact Step.alloc _ _
  rw [← hW3]
  have HB3 := Lib.hid hb3
  have HSB3 := Lib.hid (And.intro ((HSB.out.1.weak (T := fun _ => False) fun _ _ h => h.elim).keep (.of_step hS3)) ((HSB.out.2.weak (T := fun _ => False) fun _ _ h => h.elim).keep (.of_step hS3)))
  have HT2 := Lib.hid (HT.out.trans hS3)
  clear HT hb3 hS3 hW3 HSB
  have HT := HT2
  clear HT2
  obtain ⟨y0, y1⟩ : W3.cell? ⟨w2.heap.size, 0, none⟩ = some (.slice q0 W.books.length r0) ∧ W3.cell? ⟨w2.heap.size, 1, none⟩ = some (.slice q1 lm r1) := ⟨HB3.out.cell 0, HB3.out.cell 1⟩
  obtain ⟨e0, e1, e2, e3, e4⟩ := cells5 (HB.out.step HT.out)
  go_wp2_with fail
  refine (seatsW_any (fun _ => False) h W _ _ _ (HH.out.keep (.of_step HT.out)) ⟨_, rfl, _, _, rfl, HSB3.out.1, by rw [HLM.out]; exact HSB3.out.2⟩ HV.out.1 HI.out.ok).mono ?_
  rintro e wn ⟨rfl, hSn⟩
  clear e0 e1 e2 e3 e4
  have y0 := (hSn).keeps.cell id y0; have y1 := (hSn).keeps.cell id y1
  have hSBn := Lib.hid (And.intro (HSB3.out.1.keep (.of_step hSn)) (HSB3.out.2.keep (.of_step hSn)))
  have hB3n := Lib.hid (HB3.out.step hSn)
  have hTn := Lib.hid (HT.out.trans hSn)
  clear HSB3 HB3 HT hSn
  have HSB3 := hSBn
  have HB3 := hB3n
  have HT := hTn
  clear hSBn hB3n hTn
  go_upto_region 6 with (fail)
  have hnb : 0 < W.books.length := by have := HI.out.ok.len; have := bounds_valid HV.out.1; omega
  obtain ⟨i, hgi, hib, hgw, _, _⟩ := u8_mod HG.out hnb
  obtain ⟨pQ, cQ, bb, bo, he, _, _, hpb, hcb, _⟩ := HSB3.out.1.books
  injection he with he1 he2 he3
  clear he2 he3
  have hpb := hpb hnb
  rw [← he1] at hpb
  subst hpb
  obtain ⟨b1, b2, b4, ⟨f0, f1, f2, f3, f4, f5⟩, s1, s2, s4⟩ := hcb i hib
  have hba : W.books[i] = bk W i := (bk_at hib).symm
  rw [hba] at f0 f3 f5 s1 s2 s4
  obtain ⟨a, ha⟩ : ∃ a, a = bk W i := ⟨_, rfl⟩
  rw [← ha] at f0 f3 f5 s1 s2 s4
  have HA := Lib.hid (And.intro ha hib)
  have HS3 := Lib.hid (And.intro s1 (And.intro s2 s4))
  have hrg : (0 : Int) ≤ (i : Int) ∧ (i : Int) < (W.books.length : Int) := by omega
  have hdv : ((W.books.length : Int) == 0) = false := by rw [beq_eq_false_iff_ne]; omega
  have hwi : IntKind.i64.wrap (i : Int) = (i : Int) := by have := HI.out.ok.len; have := bounds_valid HV.out.1; rw [IntKind.wrap_i64]; omega
  have hgt : IntKind.i64.wrap (g1.tmod (W.books.length : Int)) = (i : Int) := by rw [hgi]; exact hwi
  have hne : ¬ (W.books.length : Int) = 0 := by omega
  have hne2 : ¬ W.books.length = 0 := by omega
  clear he1 hcb hba ha s1 s2 s4
  obtain ⟨r4, l4, hf4⟩ := HS3.out.2.2.form
  obtain ⟨r2, l2, hf2⟩ := HS3.out.2.1.form
  obtain ⟨r1', l1, hf1⟩ := HS3.out.1.form
  subst hf4 hf2 hf1
  have HT3 := HT
  refine wp_region_seqM (fun c d v a w h => by cases d <;> exact h) (kdOf [] [(10, 39, .agg #[.int .i64 0, .slice none 0 0, .slice none 0 0, .int .i64 0, .slice none 0 0, .int .i64 0])]) [0, 1, 0, 4, 0, 16, 48, 124, 255, 511, 0, 2047] [0, 1, 2, 3, 4, 5, 6, 7, 8, 9, 10] [11] (by kernel_rfl) (by kernel_rfl) (fun i T z hi hk => by simp only [List.mem_cons, List.not_mem_nil, or_false] at hi; rcases hi with rfl | rfl | rfl | rfl | rfl | rfl | rfl | rfl | rfl | rfl | rfl <;> simp [kdOf] at hk <;> (obtain ⟨rfl, rfl⟩ := hk; first | (show Option.bind _ _ = some _; kernel_rfl) | (refine ⟨_, rfl, fun _ _ => ?_⟩; go_simp))) ?_
  intro Wx hWx
  have y0 := (hWx).keeps.cell id y0; have f0 := (hWx).keeps.cell id f0; have f1 := (hWx).keeps.cell id f1; have f2 := (hWx).keeps.cell id f2; have f3 := (hWx).keeps.cell id f3; have f4 := (hWx).keeps.cell id f4; have f5 := (hWx).keeps.cell id f5
  repeat (first | (refine run_off rfl rfl (by rfl) ?_; (try simp only [Act.put, List.setIfInBounds_toArray, List.set_cons_zero, List.set_cons_succ])) | (refine run_chain_off rfl rfl (by rfl) (K0_mono _) ?_; (try simp only [Act.put, List.setIfInBounds_toArray, List.set_cons_zero, List.set_cons_succ])) | ((refine run_want rfl rfl (by rfl) ⟨?_, fun W hW => ?_, ?_⟩; rotate_left; (· (have d0 := hW.keeps.cell id y0; have d1 := hW.keeps.cell id f0; have d2 := hW.keeps.cell id f1; have d3 := hW.keeps.cell id f2; have d4 := hW.keeps.cell id f3; have d5 := hW.keeps.cell id f4; have d6 := hW.keeps.cell id f5; go_simp; (try with_reducible rfl)))); (try simp only [Act.put, List.setIfInBounds_toArray, List.set_cons_zero, List.set_cons_succ])))
  clear y0 f0 f1 f2 f3 f4 f5 hrg hdv hwi hgi hgw hgt hne hne2
  refine run_alloc rfl rfl (fun W5 ga hW5 hg hgb hgN => ?_)
  (try simp only [Act.put, List.setIfInBounds_toArray, List.set_cons_zero, List.set_cons_succ])
  repeat (first | (refine run_off rfl rfl (by rfl) ?_; (try simp only [Act.put, List.setIfInBounds_toArray, List.set_cons_zero, List.set_cons_succ])) | (refine run_chain_off rfl rfl (by rfl) (K0_mono _) ?_; (try simp only [Act.put, List.setIfInBounds_toArray, List.set_cons_zero, List.set_cons_succ])) | ((refine run_want rfl rfl (by rfl) ⟨?_, fun W hW => ?_, ?_⟩; rotate_left; (· (skip; go_simp; (try with_reducible rfl)))); (try simp only [Act.put, List.setIfInBounds_toArray, List.set_cons_zero, List.set_cons_succ])))
  refine run_end (L := [_]) rfl (fun W6 hW6 => ?_)
  have hb6 := Bx.step (w := W5) (cs := [_, _, _, _, _, _]) hg hW6
  refine wpl_store (v := .agg #[.int .i64 a.agency, .slice r1' a.seats.length l1, .slice r2 a.off.length l2, .int .i64 a.sent, .slice r4 a.took.length l4, .int .i64 a.cash]) rfl _ _ _ rfl rfl rfl hb6 (by kernel_rfl) (by simp [Value.cells]) (by simp [Value.cells, Value.oneCell']) [.int .i64 a.agency, .slice r1' a.seats.length l1, .slice r2 a.off.length l2, .int .i64 a.sent, .slice r4 a.took.length l4, .int .i64 a.cash] rfl (fun w8 hb8 hw8 => ?_)
  have HBA := Lib.hid hb8
  have HTw := Lib.hid (Step.wrote ((hWx.trans hW5).trans hW6) hw8 hgb)
  clear hWx hW5 hg hgb hgN hW6 hb6 hb8 hw8
  have HT8 := Lib.hid (HT.out.trans HTw.out)
  have HSB8 := Lib.hid (And.intro (HSB3.out.1.keep (.of_step HTw.out)) (HSB3.out.2.keep (.of_step HTw.out)))
  have HS8 := Lib.hid (And.intro (HS3.out.1.keep (.of_step HTw.out)) (And.intro (HS3.out.2.1.keep (.of_step HTw.out)) (HS3.out.2.2.keep (.of_step HTw.out))))
  have HB8 := Lib.hid (HB3.out.step HTw.out)
  clear HT HT3 HTw HSB3 HS3 HB3
  have HT := HT8
  clear HT8
  have HAA := Lib.hid (show AV (fun _ => False) w8 _ a from ⟨_, rfl, _, _, _, rfl, HS8.out.1, HS8.out.2.1, HS8.out.2.2⟩)
  have HBK := Lib.hid (show bookB h a = true by rw [HA.out.1]; exact book_valid HI.out HA.out.2)
  clear HSB8 HS8 HB8 HI HTO HLE HLM y1 HU
  replace HH := Lib.hid (HH.out.keep (.of_step HT.out)); replace HPR := Lib.hid (HPR.out.keep (.of_step HT.out)); replace HB := Lib.hid (HB.out.step HT.out); replace HS := Lib.hid (HS.out.trans HT.out)
  clear HT
  go_upto_region 7 with (fail)
  obtain ⟨f0, f1, f2, f3, f4, f5⟩ := cells6 HBA.out
  obtain ⟨e0, e1, e2, e3, e4⟩ := cells5 HB.out
  refine wp_region_seqM (fun c d v a w h => by cases d <;> exact h) (kdOf [1, 5] [(10, 39, .agg #[.int .i64 0, .slice none 0 0, .slice none 0 0, .int .i64 0, .slice none 0 0, .int .i64 0])]) [0, 1, 0, 0, 0, 31, 63, 127, 127, 127, 0, 1279, 3583, 8191] [0, 2, 3, 4, 1, 5, 6, 7, 8, 9, 10] [11, 12, 13] (by kernel_rfl) (by kernel_rfl) (fun i T z hi hk => by simp only [List.mem_cons, List.not_mem_nil, or_false] at hi; rcases hi with rfl | rfl | rfl | rfl | rfl | rfl | rfl | rfl | rfl | rfl | rfl <;> simp [kdOf] at hk <;> (obtain ⟨rfl, rfl⟩ := hk; first | (show Option.bind _ _ = some _; kernel_rfl) | (refine ⟨_, rfl, fun _ _ => ?_⟩; go_simp))) ?_
  intro Wx hWx
  have e0 := (hWx).keeps.cell id e0; have e1 := (hWx).keeps.cell id e1; have e2 := (hWx).keeps.cell id e2; have e3 := (hWx).keeps.cell id e3; have e4 := (hWx).keeps.cell id e4; have f0 := (hWx).keeps.cell id f0; have f1 := (hWx).keeps.cell id f1; have f2 := (hWx).keeps.cell id f2; have f3 := (hWx).keeps.cell id f3; have f4 := (hWx).keeps.cell id f4; have f5 := (hWx).keeps.cell id f5
  repeat (first | (refine run_off rfl rfl (by rfl) ?_; (try simp only [Act.put, List.setIfInBounds_toArray, List.set_cons_zero, List.set_cons_succ])) | (refine run_chain_off rfl rfl (by rfl) (K0_mono _) ?_; (try simp only [Act.put, List.setIfInBounds_toArray, List.set_cons_zero, List.set_cons_succ])) | ((refine run_want rfl rfl (by rfl) ⟨?_, fun W hW => ?_, ?_⟩; rotate_left; (· (have d0 := hW.keeps.cell id e0; have d1 := hW.keeps.cell id e1; have d2 := hW.keeps.cell id e2; have d3 := hW.keeps.cell id e3; have d4 := hW.keeps.cell id e4; have d5 := hW.keeps.cell id f0; have d6 := hW.keeps.cell id f1; have d7 := hW.keeps.cell id f2; have d8 := hW.keeps.cell id f3; have d9 := hW.keeps.cell id f4; have d10 := hW.keeps.cell id f5; go_simp; (try with_reducible rfl)))); (try simp only [Act.put, List.setIfInBounds_toArray, List.set_cons_zero, List.set_cons_succ])))
  clear e0 e1 e2 e3 e4 f0 f1 f2 f3 f4 f5
  refine run_chain rfl rfl (by rfl) (fun Wi hWi K' hK => ?_)
  have HTi := Lib.hid (hWx.trans hWi)
  clear hWx hWi
  go_simp
  refine (House_any _ h _ _ (HH.out.keep (.of_step HTi.out)) (few_valid HV.out.1)).mono ?_
  rintro e wn ⟨vh, rfl, hvh, hSn⟩
  have HVH := Lib.hid (AV.triv hvh)
  have HT := Lib.hid (HTi.out.trans hSn)
  clear HTi hvh
  refine hK _ _ (StepX.of hSn) ?_
  clear hSn hK
  (try simp only [Act.put, List.setIfInBounds_toArray, List.set_cons_zero, List.set_cons_succ])
  repeat (first | (refine run_off rfl rfl (by rfl) ?_; (try simp only [Act.put, List.setIfInBounds_toArray, List.set_cons_zero, List.set_cons_succ])) | (refine run_chain_off rfl rfl (by rfl) (K0_mono _) ?_; (try simp only [Act.put, List.setIfInBounds_toArray, List.set_cons_zero, List.set_cons_succ])) | ((refine run_want rfl rfl (by rfl) ⟨?_, fun W hW => ?_, ?_⟩; rotate_left; (· (skip; go_simp; (try with_reducible rfl)))); (try simp only [Act.put, List.setIfInBounds_toArray, List.set_cons_zero, List.set_cons_succ])))
  refine run_chain rfl rfl (by rfl) (fun Wi hWi K' hK => ?_)
  have HTi := Lib.hid (HT.out.trans hWi)
  have HVHi := Lib.hid (HVH.out.keep (.of_step hWi))
  clear hWi HT HVH
  go_simp
  refine (Lose_any _ h a _ _ s dd _ HVHi.out (HAA.out.keep (.of_step HTi.out))).mono ?_
  rintro e wn2 ⟨v6, vl, rfl, hv6, hvl, hSn⟩
  rw [(lose_code HV.out.1 HBK.out).1] at hv6 ⊢
  rw [(lose_code HV.out.1 HBK.out).2] at hvl
  obtain ⟨X, hX⟩ : ∃ P, P = actR (bookOf (loseD h a s dd)) := ⟨_, rfl⟩
  obtain ⟨M, hM⟩ : ∃ P, P = restOf [] (loseD h a s dd) := ⟨_, rfl⟩
  rw [← hX] at hv6 ⊢
  rw [← hM] at hvl
  have HX := Lib.hid hX
  have HM2 := Lib.hid hM
  obtain ⟨pm, km, rfl⟩ := hvl.form
  have HVL := Lib.hid hvl
  clear hX hM hvl
  have HT := Lib.hid (HTi.out.trans hSn)
  clear HVHi HTi
  obtain ⟨x1, x2, x4, rfl, t1, t2, t4⟩ := hv6.book
  obtain ⟨raX, naX, rfl⟩ := t1.form
  obtain ⟨rbX, nbX, rfl⟩ := t2.form
  obtain ⟨rcX, ncX, rfl⟩ := t4.form
  have HAX := Lib.hid hv6
  clear t1 t2 t4 hv6
  refine hK _ _ (StepX.of hSn) ?_
  clear hSn hK
  (try simp only [Act.put, List.setIfInBounds_toArray, List.set_cons_zero, List.set_cons_succ])
  repeat (first | (refine run_off rfl rfl (by rfl) ?_; (try simp only [Act.put, List.setIfInBounds_toArray, List.set_cons_zero, List.set_cons_succ])) | (refine run_chain_off rfl rfl (by rfl) (K0_mono _) ?_; (try simp only [Act.put, List.setIfInBounds_toArray, List.set_cons_zero, List.set_cons_succ])) | ((refine run_want rfl rfl (by rfl) ⟨?_, fun W hW => ?_, ?_⟩; rotate_left; (· (skip; go_simp; (try with_reducible rfl)))); (try simp only [Act.put, List.setIfInBounds_toArray, List.set_cons_zero, List.set_cons_succ])))
  refine run_alloc rfl rfl (fun W5 gaX hW5 hg hgb hgN => ?_)
  have hgoX : ∀ j, j < wn2.heap.size → j = gaX → j < Wi.heap.size := fun j hj hs => by omega
  (try simp only [Act.put, List.setIfInBounds_toArray, List.set_cons_zero, List.set_cons_succ])
  repeat (first | (refine run_off rfl rfl (by rfl) ?_; (try simp only [Act.put, List.setIfInBounds_toArray, List.set_cons_zero, List.set_cons_succ])) | (refine run_chain_off rfl rfl (by rfl) (K0_mono _) ?_; (try simp only [Act.put, List.setIfInBounds_toArray, List.set_cons_zero, List.set_cons_succ])) | ((refine run_want rfl rfl (by rfl) ⟨?_, fun W hW => ?_, ?_⟩; rotate_left; (· (skip; go_simp; (try with_reducible rfl)))); (try simp only [Act.put, List.setIfInBounds_toArray, List.set_cons_zero, List.set_cons_succ])))
  refine run_end (L := [_, _, _]) rfl (fun W6 hW6 => ?_)
  have hb6 := Bx.step (w := W5) (cs := [_, _, _, _, _, _]) hg hW6
  refine wpl_store (v := .agg #[.int .i64 (X.1).agency, .slice raX (X.1).seats.length naX, .slice rbX (X.1).off.length nbX, .int .i64 (X.1).sent, .slice rcX (X.1).took.length ncX, .int .i64 (X.1).cash]) rfl _ _ _ rfl rfl rfl hb6 (by kernel_rfl) (by simp [Value.cells]) (by simp [Value.cells, Value.oneCell']) [.int .i64 (X.1).agency, .slice raX (X.1).seats.length naX, .slice rbX (X.1).off.length nbX, .int .i64 (X.1).sent, .slice rcX (X.1).took.length ncX, .int .i64 (X.1).cash] rfl (fun wX hb7 hw7 => ?_)
  have hkX : Keeps (fun j => j = gaX) wn2 wX := (Keeps.of_step (hW5.trans hW6)).trans (.wrote hw7 rfl)
  have HTx := Lib.hid (Step.wrote ((HT.out.trans hW5).trans hW6) hw7 hgb)
  replace HAX := Lib.hid (AV.triv (AV.later HAX.out hgoX hkX))
  have HBX := Lib.hid hb7
  clear hW5 hg hgb hgN hW6 hb6 hb7 hw7 HT
  replace HVL := Lib.hid ((SL.later HVL.out hgoX hkX).weak (T := fun _ => False) fun _ _ h => h.elim)
  clear hgoX hkX
  replace HH := Lib.hid (HH.out.keep (.of_step HTx.out)); replace HPR := Lib.hid (HPR.out.keep (.of_step HTx.out)); replace HAA := Lib.hid (HAA.out.keep (.of_step HTx.out)); replace HB := Lib.hid (HB.out.step HTx.out); replace HBA := Lib.hid (HBA.out.step HTx.out); replace HS := Lib.hid (HS.out.trans HTx.out)
  clear HTx
  by_cases z0 : X.2 = 0
  rotate_left
  · have d : (X.2 != 0) = true := by rw [bne_iff_ne]; exact z0
    have hno := lose_no (h := h) (b := a) (s := s) (d := dd) (by rw [← HX.out]; exact z0)
    rw [← HX.out, ← HM2.out] at hno
    obtain ⟨hn1, rfl⟩ := hno
    have HN := Lib.hid (show alikeB X.1 noBook = true by rw [hn1]; simp [alikeB])
    clear z0 hn1
    obtain ⟨f0, f1, f2, f3, f4, f5⟩ := cells6 HBX.out
    go_wp2_with fail
    refine (empty_any (fun _ => False) X.1 _ _ HAX.out).mono ?_
    rintro e wn ⟨rfl, hSn⟩
    rw [HN.out]
    have HT := Lib.hid hSn
    clear f0 f1 f2 f3 f4 f5 d
    go_wp2_with fail
    refine (awake_any _).mono ?_
    rintro e wz ⟨rfl, hSz⟩
    go_wp2
    go_ret
    exact ⟨rfl, HS.out.trans (HT.out.trans hSz)⟩
  have d : (X.2 != 0) = false := by rw [z0]; rfl
  have hyes := lose_yes (h := h) (b := a) (s := s) (d := dd) (by rw [← HX.out]; exact z0)
  rw [← HX.out, ← HM2.out] at hyes
  obtain ⟨i, rfl, hi, hdd, hbx, hoff, n, hn, hmv⟩ := lose_moved HV.out.1 HBK.out hyes
  have HMV := Lib.hid hmv
  have HIN := Lib.hid (And.intro hi (And.intro hdd (And.intro hbx (And.intro hoff hn))))
  clear z0 hyes hmv hi hdd hbx hoff hn HX HM2
  have hd1 : 1 ≤ h.dates.length ∧ h.dates.length ≤ 6 := ⟨(bounds_valid HV.out.1).1, (bounds_valid HV.out.1).2.1⟩
  have hn1 : 1 ≤ n ∧ n ≤ 100 := by
    have := bounds_valid HV.out.1
    have := HIN.out.2.2.2.2
    have := size_pos HV.out.1
    omega
  obtain ⟨nd, hnd⟩ : ∃ nd, nd = h.dates.length := ⟨_, rfl⟩
  have hlx := book_lens HV.out.1 HIN.out.2.2.1 HIN.out.2.2.2.2
  have hla := book_lens HV.out.1 HBK.out HIN.out.2.2.2.2
  rw [← hnd] at hlx hla hd1
  have hbx := HBX.out
  have hba := HBA.out
  have hax := HAX.out
  have haa := HAA.out
  have hbb := HB.out
  have hhh := HH.out
  rw [hlx.1, hlx.2.1] at hbx hax
  rw [hla.1, hla.2.1] at hba haa
  rw [← hnd] at hbb hhh ⊢
  have HBX := Lib.hid hbx
  have HBA := Lib.hid hba
  have HAX := Lib.hid hax
  have HAA := Lib.hid haa
  have HB := Lib.hid hbb
  have HH := Lib.hid hhh
  have HLX := Lib.hid hlx
  have HLA := Lib.hid hla
  have HND := Lib.hid hnd
  clear hlx hla hbx hba hax haa hbb hhh hnd
  obtain ⟨wz, hwz⟩ : ∃ W, W = wX := ⟨_, rfl⟩
  subst hwz
  obtain ⟨e0, e1, e2, e3, e4⟩ := cells5 HB.out
  go_wp2_with fail
  refine (Classes_any (fun _ => False) h _ _ HH.out (okSec_valid HV.out.1)).mono ?_
  rintro e wn ⟨vc, rfl, hvc, hSn⟩
  obtain ⟨pc, kc, bc, oc, rfl, _, _, hpc, hcc, _⟩ := hvc.ints
  obtain ⟨hcl, hce⟩ := classes_at HV.out.1 HIN.out.2.2.2.2
  obtain ⟨C, hC⟩ : ∃ C, C = classesL h.sectors := ⟨_, rfl⟩
  have hcls : ∀ j (hj : j < C.length), C[j] = classL h.sectors j ∧ withinB (classL h.sectors j) 0 (h.prices.length - 1) = true := by
    subst hC; intro j hj; exact hce j (by omega)
  rw [← hC] at hpc hcc hcl ⊢
  rw [hcl] at hpc ⊢
  have HC := Lib.hid (And.intro hpc (And.intro hcc (And.intro hcl hcls)))
  clear hvc hpc hcc hcl hce hC hcls e0 e1 e2 e3 e4 d
  replace HH := Lib.hid (HH.out.keep (.of_step hSn)); replace HAA := Lib.hid (HAA.out.keep (.of_step hSn)); replace HAX := Lib.hid (HAX.out.keep (.of_step hSn)); replace HVL := Lib.hid (HVL.out.keep (.of_step hSn)); replace HB := Lib.hid (HB.out.step hSn); replace HBA := Lib.hid (HBA.out.step hSn); replace HBX := Lib.hid (HBX.out.step hSn); replace HS := Lib.hid (HS.out.trans hSn)
  clear hSn
  have hi := HIN.out.1
  rw [← HND.out] at hi
  obtain ⟨po, ko, bo, oo, hpe, _, _, hpo, hco, _⟩ := HAX.out.rows6.2.1.bools
  injection hpe with hpe1 hpe2 hpe3
  clear hpe2 hpe3
  subst hpe1
  have hio : i < X.1.off.length := by rw [HLX.out.2.1]; exact hi
  obtain rfl := hpo (by omega)
  have gof := hco i hio
  rw [off_get HIN.out.2.2.2.1 hio] at gof
  have d2 : decide ((i : Int) < 0) = false := decide_eq_false (by omega)
  have d3 : decide ((nd : Int) ≤ (i : Int)) = false := decide_eq_false (by omega)
  have d3n : decide (nd ≤ i) = false := decide_eq_false (by omega)
  have d4 : ((nd : Int) != (nd : Int)) = false := by simp
  have hix : (0 : Int) ≤ (i : Int) ∧ (i : Int) < (nd : Int) := by omega
  have hir : nd = h.dates.length := HND.out
  clear hpo hco hio hir
  go_upto_region 11 with (fail)
  obtain ⟨f0, f1, f2, f3, f4, f5⟩ := cells6 HBX.out
  obtain ⟨e0, e1, e2, e3, e4⟩ := cells5 HB.out
  refine wp_region_seqM (fun c d v a w h => by cases d <;> exact h) (kdOf [37, 39] []) (0 :: 1 :: 3 :: 7 :: 7 :: 23 :: 55 :: 127 :: 255 :: 511 :: 1023 :: 2047 :: 4095 :: 1023 :: 9215 :: 25599 :: 65535 :: 131071 :: 262143 :: 524287 :: 1048575 :: 2097151 :: 524287 :: 4718591 :: 13107199 :: 33554431 :: 67108863 :: 134217727 :: 268435455 :: 536870911 :: 268435455 :: 2147483647 :: 4294967295 :: 8589934591 :: 17179869183 :: 34359738367 :: 68719476735 :: 137438953471 :: 68719476735 :: 549755813887 :: 1099511627775 :: 2199023255551 :: []) (0 :: 1 :: 2 :: 3 :: 4 :: 5 :: 6 :: 7 :: 8 :: 9 :: 10 :: 11 :: 12 :: 13 :: 14 :: 15 :: 16 :: 17 :: 18 :: 19 :: 20 :: 21 :: 22 :: 23 :: 24 :: 25 :: 26 :: 27 :: 28 :: 29 :: 30 :: 31 :: 32 :: 33 :: 34 :: 35 :: 36 :: 38 :: 37 :: 39 :: 40 :: 41 :: []) [] (by kernel_rfl) (by kernel_rfl) (fun i T z hi hk => by simp [kdOf] at hk <;> (try (split at hk <;> cases hk))) ?_
  intro Wx hWx
  have e0 := (hWx).keeps.cell id e0; have e1 := (hWx).keeps.cell id e1; have e2 := (hWx).keeps.cell id e2; have e3 := (hWx).keeps.cell id e3; have e4 := (hWx).keeps.cell id e4; have f0 := (hWx).keeps.cell id f0; have f1 := (hWx).keeps.cell id f1; have f2 := (hWx).keeps.cell id f2; have f3 := (hWx).keeps.cell id f3; have f4 := (hWx).keeps.cell id f4; have f5 := (hWx).keeps.cell id f5; have gof := (hWx).keeps.cell id gof
  repeat (first | (refine run_off rfl rfl (by rfl) ?_; (try simp only [Act.put, List.setIfInBounds_toArray, List.set_cons_zero, List.set_cons_succ])) | (refine run_chain_off rfl rfl (by rfl) (K0_mono _) ?_; (try simp only [Act.put, List.setIfInBounds_toArray, List.set_cons_zero, List.set_cons_succ])) | ((refine run_want rfl rfl (by rfl) ⟨?_, fun W hW => ?_, ?_⟩; rotate_left; (· (have d0 := hW.keeps.cell id e0; have d1 := hW.keeps.cell id e1; have d2 := hW.keeps.cell id e2; have d3 := hW.keeps.cell id e3; have d4 := hW.keeps.cell id e4; have d5 := hW.keeps.cell id f0; have d6 := hW.keeps.cell id f1; have d7 := hW.keeps.cell id f2; have d8 := hW.keeps.cell id f3; have d9 := hW.keeps.cell id f4; have d10 := hW.keeps.cell id f5; have d11 := hW.keeps.cell id gof; go_simp; (try with_reducible rfl)))); (try simp only [Act.put, List.setIfInBounds_toArray, List.set_cons_zero, List.set_cons_succ])))
  clear e0 e1 e2 e3 e4 f0 f1 f2 f3 f4 f5 gof
  refine run_chain rfl rfl (by rfl) (fun Wi hWi K' hK => ?_)
  have HTi := Lib.hid (hWx.trans hWi)
  clear hWx hWi
  go_simp
  refine (House_any _ h _ _ (HH.out.keep (.of_step HTi.out)) (few_valid HV.out.1)).mono ?_
  rintro e wn ⟨vh, rfl, hvh, hSn⟩
  have HVH := Lib.hid (AV.triv hvh)
  have HT := Lib.hid (HTi.out.trans hSn)
  clear HTi hvh
  refine hK _ _ (StepX.of hSn) ?_
  clear hSn hK
  (try simp only [Act.put, List.setIfInBounds_toArray, List.set_cons_zero, List.set_cons_succ])
  repeat (first | (refine run_off rfl rfl (by rfl) ?_; (try simp only [Act.put, List.setIfInBounds_toArray, List.set_cons_zero, List.set_cons_succ])) | (refine run_chain_off rfl rfl (by rfl) (K0_mono _) ?_; (try simp only [Act.put, List.setIfInBounds_toArray, List.set_cons_zero, List.set_cons_succ])) | ((refine run_want rfl rfl (by rfl) ⟨?_, fun W hW => ?_, ?_⟩; rotate_left; (· (skip; go_simp; (try with_reducible rfl)))); (try simp only [Act.put, List.setIfInBounds_toArray, List.set_cons_zero, List.set_cons_succ])))
  refine run_chain rfl rfl (by rfl) (fun Wi hWi K' hK => ?_)
  have HTi := Lib.hid (HT.out.trans hWi)
  have HVHi := Lib.hid (HVH.out.keep (.of_step hWi))
  clear hWi HT HVH
  go_simp
  refine (CheckBook_any _ h X.1 _ _ _ HVHi.out (HAX.out.keep (.of_step HTi.out))).mono ?_
  rintro e wn2 ⟨rfl, hSn⟩
  rw [show checkR h X.1 = 0 by simp [checkR, HV.out.1, HIN.out.2.2.1]]
  refine hK _ _ (StepX.of hSn) ?_
  have HT := Lib.hid (HTi.out.trans hSn)
  clear hSn hK HTi HVHi
  (try simp only [Act.put, List.setIfInBounds_toArray, List.set_cons_zero, List.set_cons_succ])
  repeat (first | (refine run_off rfl rfl (by rfl) ?_; (try simp only [Act.put, List.setIfInBounds_toArray, List.set_cons_zero, List.set_cons_succ])) | (refine run_chain_off rfl rfl (by rfl) (K0_mono _) ?_; (try simp only [Act.put, List.setIfInBounds_toArray, List.set_cons_zero, List.set_cons_succ])) | ((refine run_want rfl rfl (by rfl) ⟨?_, fun W hW => ?_, ?_⟩; rotate_left; (· (skip; go_simp; (try with_reducible rfl)))); (try simp only [Act.put, List.setIfInBounds_toArray, List.set_cons_zero, List.set_cons_succ])))
  refine run_end (L := []) rfl (fun W6 hW6 => ?_)
  have hT6 := HT.out.trans hW6
  have hcW := hT6
  replace HH := Lib.hid (HH.out.keep (.of_step hT6)); replace HAA := Lib.hid (HAA.out.keep (.of_step hT6)); replace HAX := Lib.hid (HAX.out.keep (.of_step hT6)); replace HVL := Lib.hid (HVL.out.keep (.of_step hT6)); replace HB := Lib.hid (HB.out.step hT6); replace HBA := Lib.hid (HBA.out.step hT6); replace HBX := Lib.hid (HBX.out.step hT6); replace HS := Lib.hid (HS.out.trans hT6)
  have HC := Lib.hid (And.intro HC.out.1 (And.intro (fun j hj => hcW.keeps.cell id (HC.out.2.1 j hj)) HC.out.2.2))
  clear hcW hT6 hW6 HT d2 d3 d3n d4
  obtain ⟨wb, hwb⟩ : ∃ W, W = W6 := ⟨_, rfl⟩
  subst hwb
  obtain ⟨ab, ao, hea, hac⟩ := HAA.out.rows6.1.seatCells HLA.out.1 HLA.out.2.2 (by omega) (by omega)
  obtain ⟨xb, xo, hex, hxc⟩ := HAX.out.rows6.1.seatCells HLX.out.1 HLX.out.2.2 (by omega) (by omega)
  subst hea hex
  have HAC := Lib.hid hac
  have HXC := Lib.hid hxc
  obtain ⟨pm2, km2, bm, om, hme, _, _, hpm, hcm, _⟩ := HVL.out.moves
  injection hme with he1 he2 he3
  clear he2 he3
  subst he1
  have HMM := Lib.hid (And.intro hpm hcm)
  clear hac hxc hpm hcm
  obtain rfl := HC.out.1 (by omega)
  obtain ⟨po, ko, bo2, oo2, hpe, _, _, hpo, hco, _⟩ := HAA.out.rows6.2.1.bools
  injection hpe with hpe1 hpe2 hpe3
  clear hpe2 hpe3
  subst hpe1
  have HOF := Lib.hid (show ∀ p, p < nd → offAt a p = false → wb.cell? ⟨bo2, oo2 + p, none⟩ = some (.bool false) from fun p hp ho => by
    have hl : p < a.off.length := by rw [HLA.out.2.1]; exact hp
    rw [hco p hl, off_at hl ho])
  have hpo2 := hpo (by have := HLA.out.2.1; omega)
  subst hpo2
  have HKM := Lib.hid (moved_len HMV.out)
  clear hpo hco
  have HT0 := Lib.hid (Step.refl wb)
  go_upto_region 15 with (fail)
  go_loopw [18, 19] (fun kv iv wr => ∃ j : Nat, j ≤ n ∧ iv = .int .i64 j ∧ kv = .int .i64 (posL a i j).length ∧ Step wb wr) (fun _ iv _ => n - (intOf iv).toNat)
  case atStart => exact ⟨0, Nat.zero_le _, rfl, rfl, HT0.out⟩
  case round =>
    obtain ⟨j, hj, rfl, rfl, hT⟩ := hrel
    have HTn := Lib.hid hT
    clear hT
    have hkj := posL_len a i j
    obtain ⟨kk, hkk⟩ : ∃ kk, kk = (posL a i j).length := ⟨_, rfl⟩
    rw [← hkk] at hkj ⊢
    have HKK := Lib.hid hkk
    clear hkk
    by_cases hlt : j < n
    · obtain ⟨rb, ro, rc, g0, g1⟩ := HAC.out i hi
      have g1 := g1 j hlt
      obtain ⟨y, hy⟩ : ∃ y, y = seatAt a i j := ⟨_, rfl⟩
      rw [← hy] at g1
      have HY := Lib.hid hy
      clear hy
      have g0 := (HTn.out).keeps.cell id g0; have g1 := (HTn.out).keeps.cell id g1
      obtain ⟨x0, x1, x2, x3, x4, x5⟩ := cells6 (HBA.out.step HTn.out)
      have hjx : (0 : Int) ≤ (j : Int) ∧ (j : Int) < (n : Int) := by omega
      by_cases hp : 0 < y
      rotate_left
      · have d5 : decide (y ≤ 0) = true := decide_eq_true (by omega)
        have HPN := Lib.hid (show kk = (posL a i (j + 1)).length by rw [posL_no (by rw [← HY.out]; exact hp)]; exact HKK.out)
        clear hp
        go_wp2
        go_roundw
        case rel => exact ⟨j + 1, by omega, by go_num, by rw [← HPN.out], HTn.out⟩
        case measure => simp [intOf]; omega
      have d5 : decide (y ≤ 0) = false := decide_eq_false (by omega)
      have hmat := moved_at HMV.out hlt (by rw [← HY.out]; exact hp)
      rw [← HKK.out] at hmat
      obtain ⟨hkm, hms⟩ := hmat
      obtain ⟨mv, hmv⟩ : ∃ m, m = M[kk] := ⟨_, rfl⟩
      obtain ⟨j', e1, e2, e3, hcase⟩ := HMV.out.move mv (by rw [hmv]; exact List.getElem_mem _)
      rw [← hmv] at hms
      obtain rfl : j' = j := by omega
      obtain rfl := HMM.out.1 (by omega)
      obtain ⟨m0, m1, m2⟩ := HMM.out.2 kk hkm
      rw [← hmv] at m0 m1 m2
      obtain ⟨mse, msh, mat⟩ := mv
      dsimp only at hms hcase m0 m1 m2
      subst hms
      have HPN := Lib.hid (show ((kk + 1 : Nat) : Int) = (posL a i (j' + 1)).length by rw [posL_yes (by rw [← HY.out]; exact hp), List.length_append, ← HKK.out]; rfl)
      have HCS := Lib.hid hcase
      clear hmv e1 e2 e3 hcase hp
      have m0 := (HTn.out).keeps.cell id m0; have m1 := (HTn.out).keeps.cell id m1; have m2 := (HTn.out).keeps.cell id m2
      have d6 : decide ((M.length : Int) ≤ (kk : Int)) = false := decide_eq_false (by omega)
      have d6n : decide (M.length ≤ kk) = false := decide_eq_false (by omega)
      have hkx : (0 : Int) ≤ (kk : Int) ∧ (kk : Int) < (M.length : Int) := by omega
      go_upto_region 22 with (fail)
      clear d5 d6 d6n g0 g1 x0 x1 x2 x3 x4 x5 m0 m1 m2 hkx
      obtain ⟨W7, hW7⟩ : ∃ W, W = wr.alloc (.cells #[.int .i64 (j' : Int), .int .i64 msh, .int .i64 mat] 59) := ⟨_, rfl⟩
      have hb7 : Bx W7 wr.heap.size [.int .i64 (j' : Int), .int .i64 msh, .int .i64 mat] 59 := by subst hW7; exact Bx.new _ [_, _, _] _
      have hS7 : Step wr W7 := by subst hW7; exact Step.alloc _ _
      rw [← hW7]
      obtain ⟨gm, hgm⟩ : ∃ g, g = wr.heap.size := ⟨_, rfl⟩
      rw [← hgm] at hb7 ⊢
      have HT7 := Lib.hid (HTn.out.trans hS7)
      have HB7 := Lib.hid hb7
      clear hW7 hb7 hS7 hgm
      have n1 := HB7.out.cell 1
      have n2 := HB7.out.cell 2
      simp only [List.getElem?_cons_zero, List.getElem?_cons_succ] at n1 n2
      rcases HCS.out with ⟨hm1, hopen⟩ | ⟨p, q, hp1, hq1, hip, hpd, hqn, hcq, hz, hx, hof⟩
      · as_aux_lemma =>
          subst hm1
          have HOP := Lib.hid hopen
          clear hopen HCS
          have d7 : decide ((0 : Int) ≤ (-1 : Int)) = false := by decide
          go_upto_region 27 with (fail)
          clear n1 n2 d7
          obtain ⟨cj, hcj⟩ : ∃ c, c = classL h.sectors j' := ⟨_, rfl⟩
          have hgc := HC.out.2.1 j' (by rw [HC.out.2.2.1]; exact hlt)
          rw [(HC.out.2.2.2 j' (by rw [HC.out.2.2.1]; exact hlt)).1, ← hcj] at hgc
          have HGC := Lib.hid hgc
          have HCW := Lib.hid (show withinB cj 0 (h.prices.length - 1) = true by rw [hcj]; exact (HC.out.2.2.2 j' (by rw [HC.out.2.2.1]; exact hlt)).2)
          have HOP2 := Lib.hid (show ∀ s : Nat, i < s → s < nd → (actR (bookOf (gate h X.1 (freeD h X.1 s cj dd)))).2 = 0 ∧ restOf [] (gate h X.1 (freeD h X.1 s cj dd)) = [] from fun s h1 h2 =>
            free_none HV.out.1 HIN.out.2.2.1 (by have := HND.out; simp [withinB]; omega) HCW.out HIN.out.2.1 (by rw [hcj]; exact HOP.out s h1 (by rw [← HND.out]; exact h2)))
          clear hgc hcj
          go_loopw [22] (fun sv wi => ∃ s' : Nat, i + 1 ≤ s' ∧ s' ≤ nd ∧ sv = .int .i64 s' ∧ Step wb wi) (fun sv _ => nd - (intOf sv).toNat)
          case atStart => exact ⟨i + 1, Nat.le_refl _, by omega, by go_num, HT7.out⟩
          case round =>
            obtain ⟨s', hs1, hs2, rfl, hT⟩ := hrel
            have HT8 := Lib.hid hT
            clear hT
            have HBi := Lib.hid (HB.out.step HT8.out)
            by_cases hls : s' < nd
            · have hfr := HOP2.out s' (by omega) hls
              have HFR := Lib.hid hfr
              clear hfr
              have HB := HBi
              have HH := Lib.hid (HH.out.keep (.of_step HT8.out))
              have HAXi := Lib.hid (HAX.out.keep (.of_step HT8.out))
              obtain ⟨f0, f1, f2, f3, f4, f5⟩ := cells6 (HBX.out.step HT8.out)
              have gc := HT8.out.keeps.cell id HGC.out
              obtain ⟨e0, e1, e2, e3, e4⟩ := cells5 HB.out
              go_upto_region 29 with (fail)
              clear e0 e1 e2 e3 e4
              obtain ⟨e0, e1, e2, e3, e4⟩ := cells5 HB.out
              refine wp_region_seqM (fun c d v a w h => by cases d <;> exact h) (kdOf [1, 9] []) [0, 1, 0, 0, 0, 0, 48, 112, 0, 511, 1023, 2047, 2047, 4095, 16383] [0, 2, 3, 4, 5, 6, 7, 8, 1, 9, 10, 11, 12, 13, 14] [] (by kernel_rfl) (by kernel_rfl) (fun i T z hi hk => by simp [kdOf] at hk <;> (try (split at hk <;> cases hk))) ?_
              intro Wx hWx
              have e0 := (hWx).keeps.cell id e0; have e1 := (hWx).keeps.cell id e1; have e2 := (hWx).keeps.cell id e2; have e3 := (hWx).keeps.cell id e3; have e4 := (hWx).keeps.cell id e4; have f0 := (hWx).keeps.cell id f0; have f1 := (hWx).keeps.cell id f1; have f2 := (hWx).keeps.cell id f2; have f3 := (hWx).keeps.cell id f3; have f4 := (hWx).keeps.cell id f4; have f5 := (hWx).keeps.cell id f5; have gc := (hWx).keeps.cell id gc
              repeat (first | (refine run_off rfl rfl (by rfl) ?_; (try simp only [Act.put, List.setIfInBounds_toArray, List.set_cons_zero, List.set_cons_succ])) | (refine run_chain_off rfl rfl (by rfl) (K0_mono _) ?_; (try simp only [Act.put, List.setIfInBounds_toArray, List.set_cons_zero, List.set_cons_succ])) | ((refine run_want rfl rfl (by rfl) ⟨?_, fun W hW => ?_, ?_⟩; rotate_left; (· (have d0 := hW.keeps.cell id e0; have d1 := hW.keeps.cell id e1; have d2 := hW.keeps.cell id e2; have d3 := hW.keeps.cell id e3; have d4 := hW.keeps.cell id e4; have d5 := hW.keeps.cell id f0; have d6 := hW.keeps.cell id f1; have d7 := hW.keeps.cell id f2; have d8 := hW.keeps.cell id f3; have d9 := hW.keeps.cell id f4; have d10 := hW.keeps.cell id f5; have d11 := hW.keeps.cell id gc; go_simp; (try with_reducible rfl)))); (try simp only [Act.put, List.setIfInBounds_toArray, List.set_cons_zero, List.set_cons_succ])))
              clear e0 e1 e2 e3 e4 f0 f1 f2 f3 f4 f5 gc
              refine run_chain rfl rfl (by rfl) (fun Wi hWi K' hK => ?_)
              have HTi := Lib.hid (hWx.trans hWi)
              clear hWx hWi
              go_simp
              refine (House_any _ h _ _ (HH.out.keep (.of_step HTi.out)) (few_valid HV.out.1)).mono ?_
              rintro e wn ⟨vh, rfl, hvh, hSn⟩
              have HVH := Lib.hid (AV.triv hvh)
              have HT := Lib.hid (HTi.out.trans hSn)
              clear HTi hvh
              refine hK _ _ (StepX.of hSn) ?_
              clear hSn hK
              (try simp only [Act.put, List.setIfInBounds_toArray, List.set_cons_zero, List.set_cons_succ])
              repeat (first | (refine run_off rfl rfl (by rfl) ?_; (try simp only [Act.put, List.setIfInBounds_toArray, List.set_cons_zero, List.set_cons_succ])) | (refine run_chain_off rfl rfl (by rfl) (K0_mono _) ?_; (try simp only [Act.put, List.setIfInBounds_toArray, List.set_cons_zero, List.set_cons_succ])) | ((refine run_want rfl rfl (by rfl) ⟨?_, fun W hW => ?_, ?_⟩; rotate_left; (· (skip; go_simp; (try with_reducible rfl)))); (try simp only [Act.put, List.setIfInBounds_toArray, List.set_cons_zero, List.set_cons_succ])))
              refine run_chain rfl rfl (by rfl) (fun Wi hWi K' hK => ?_)
              have HTi := Lib.hid (HT.out.trans hWi)
              have HVHi := Lib.hid (HVH.out.keep (.of_step hWi))
              clear hWi HT HVH
              go_simp
              refine (Free_any _ h X.1 _ _ s' cj dd _ HVHi.out (HAXi.out.keep (.of_step HTi.out))).mono ?_
              rintro e wn2 ⟨vl, rfl, hvl, hSn⟩
              rw [HFR.out.1]
              rw [HFR.out.2] at hvl
              obtain ⟨pf, kf, rfl⟩ := hvl.form
              rw [show ([] : List Int).length = 0 from rfl]
              clear hvl
              refine hK _ _ (StepX.of hSn) ?_
              have HT := Lib.hid (HTi.out.trans hSn)
              clear hSn hK HTi HVHi
              (try simp only [Act.put, List.setIfInBounds_toArray, List.set_cons_zero, List.set_cons_succ])
              repeat (first | (refine run_off rfl rfl (by rfl) ?_; (try simp only [Act.put, List.setIfInBounds_toArray, List.set_cons_zero, List.set_cons_succ])) | (refine run_chain_off rfl rfl (by rfl) (K0_mono _) ?_; (try simp only [Act.put, List.setIfInBounds_toArray, List.set_cons_zero, List.set_cons_succ])) | ((refine run_want rfl rfl (by rfl) ⟨?_, fun W hW => ?_, ?_⟩; rotate_left; (· (skip; go_simp; (try with_reducible rfl)))); (try simp only [Act.put, List.setIfInBounds_toArray, List.set_cons_zero, List.set_cons_succ])))
              refine run_end (L := []) rfl (fun W6 hW6 => ?_)
              have hT6 := HT.out.trans hW6
              have HT9 := Lib.hid (HT8.out.trans hT6)
              clear hT6 hW6 HT
              go_wp2
              go_roundw
              case rel => exact ⟨s' + 1, by omega, by omega, by go_num, HT9.out⟩
              case measure => simp [intOf]; omega
            · obtain ⟨e0, e1, e2, e3, e4⟩ := cells5 HBi.out
              go_wp2
              go_roundw
              case rel => exact ⟨j' + 1, by omega, by go_num, by rw [← HPN.out]; go_num, HT8.out⟩
              case measure => simp [intOf]; omega
      · as_aux_lemma =>
          subst hp1 hq1
          have hpn : p < nd := by rw [HND.out]; exact hpd
          have hqn2 : q < n := by have := HIN.out.2.2.2.2; omega
          have hcx := HC.out.2.1 q (by rw [HC.out.2.2.1]; exact hqn2)
          have hcy := HC.out.2.1 j' (by rw [HC.out.2.2.1]; exact hlt)
          rw [(HC.out.2.2.2 q (by rw [HC.out.2.2.1]; exact hqn2)).1, hcq] at hcx
          rw [(HC.out.2.2.2 j' (by rw [HC.out.2.2.1]; exact hlt)).1] at hcy
          obtain ⟨cj, hcj⟩ : ∃ c, c = classL h.sectors j' := ⟨_, rfl⟩
          rw [← hcj] at hcx hcy
          obtain ⟨rb, ro, rc, g0, g1⟩ := HAC.out p hpn
          have g1 := g1 q hqn2
          rw [hz] at g1
          obtain ⟨xrb, xro, xrc, k0', k1'⟩ := HXC.out p hpn
          have k1' := k1' q hqn2
          rw [hx, ← HY.out] at k1'
          have gf := HOF.out p hpn hof
          clear HCS hcj hz hx hof hcq hpd hqn
          have hcx := (HT7.out).keeps.cell id hcx; have hcy := (HT7.out).keeps.cell id hcy; have g0 := (HT7.out).keeps.cell id g0; have g1 := (HT7.out).keeps.cell id g1; have k0' := (HT7.out).keeps.cell id k0'; have k1' := (HT7.out).keeps.cell id k1'; have gf := (HT7.out).keeps.cell id gf
          obtain ⟨f0, f1, f2, f3, f4, f5⟩ := cells6 (HBX.out.step HT7.out)
          obtain ⟨x0, x1, x2, x3, x4, x5⟩ := cells6 (HBA.out.step HT7.out)
          obtain ⟨e0, e1, e2, e3, e4⟩ := cells5 (HB.out.step HT7.out)
          have d1 : decide ((0 : Int) ≤ (p : Int)) = true := decide_eq_true (by omega)
          have d2 : decide ((p : Int) ≤ (i : Int)) = false := decide_eq_false (by omega)
          have d2n : decide (p ≤ i) = false := decide_eq_false (by omega)
          have d3 : decide ((nd : Int) ≤ (p : Int)) = false := decide_eq_false (by omega)
          have d3n : decide (nd ≤ p) = false := decide_eq_false (by omega)
          have d4 : decide ((q : Int) < 0) = false := decide_eq_false (by omega)
          have d5 : decide ((n : Int) ≤ (q : Int)) = false := decide_eq_false (by omega)
          have d5n : decide (n ≤ q) = false := decide_eq_false (by omega)
          have d6 : (cj != cj) = false := by simp
          have d7 : (y != y) = false := by simp
          have hq1 : (0 : Int) ≤ (q : Int) ∧ (q : Int) < (n : Int) := by omega
          have hp1 : (0 : Int) ≤ (p : Int) ∧ (p : Int) < (nd : Int) := by omega
          go_upto_region 24 with (fail)
          refine wp_region_seqM (fun c d v a w h => by cases d <;> exact h) (kdOf [] []) (0 :: 1 :: 0 :: 7 :: 15 :: 31 :: 63 :: 31 :: 159 :: 415 :: 1023 :: 2047 :: 4095 :: 8191 :: 16383 :: 32767 :: 65535 :: 131071 :: 262143 :: 524287 :: 262143 :: 1310719 :: 4194303 :: 8388607 :: 16777215 :: 33554431 :: 33554431 :: 100663295 :: 268435455 :: 536870911 :: 33554431 :: 33554431 :: 3254779903 :: 7549747199 :: 17179869183 :: 34359738367 :: 68719476735 :: 137438953471 :: 274877906943 :: 137438953471 :: 687194767359 :: 2199023255551 :: 4398046511103 :: 137438953471 :: 8933531975679 :: 35184372088831 :: 70368744177663 :: 140737488355327 :: 281474976710655 :: 562949953421311 :: 1125899906842623 :: 2251799813685247 :: 1125899906842623 :: 5629499534213119 :: 18014398509481983 :: 36028797018963967 :: 1125899906842623 :: 73183493944770559 :: 288230376151711743 :: 576460752303423487 :: 1125899906842623 :: 2305843009213693951 :: 4611686018427387903 :: 9223372036854775807 :: 18446744073709551615 :: 36893488147419103231 :: 18446744073709551615 :: 92233720368547758079 :: 295147905179352825855 :: 590295810358705651711 :: 1180591620717411303423 :: []) (0 :: 1 :: 2 :: 3 :: 4 :: 5 :: 6 :: 7 :: 8 :: 9 :: 10 :: 11 :: 12 :: 13 :: 14 :: 15 :: 16 :: 17 :: 18 :: 19 :: 20 :: 21 :: 22 :: 23 :: 24 :: 25 :: 26 :: 27 :: 28 :: 29 :: 30 :: 31 :: 32 :: 33 :: 34 :: 35 :: 36 :: 37 :: 38 :: 39 :: 40 :: 41 :: 42 :: 43 :: 44 :: 45 :: 46 :: 47 :: 48 :: 49 :: 50 :: 51 :: 52 :: 53 :: 54 :: 55 :: 56 :: 57 :: 58 :: 59 :: 60 :: 61 :: 62 :: 63 :: 64 :: 65 :: 66 :: 67 :: 68 :: 69 :: 70 :: []) [] (by kernel_rfl) (by kernel_rfl) (fun i T z hi hk => by simp [kdOf] at hk <;> (try (split at hk <;> cases hk))) ?_
          intro Wx hWx
          have n1 := (hWx).keeps.cell id n1; have n2 := (hWx).keeps.cell id n2; have hcx := (hWx).keeps.cell id hcx; have hcy := (hWx).keeps.cell id hcy; have g0 := (hWx).keeps.cell id g0; have g1 := (hWx).keeps.cell id g1; have k0' := (hWx).keeps.cell id k0'; have k1' := (hWx).keeps.cell id k1'; have gf := (hWx).keeps.cell id gf; have f1 := (hWx).keeps.cell id f1; have x1 := (hWx).keeps.cell id x1; have x2 := (hWx).keeps.cell id x2; have e2 := (hWx).keeps.cell id e2
          repeat (first | (refine run_off rfl rfl (by rfl) ?_; (try simp only [Act.put, List.setIfInBounds_toArray, List.set_cons_zero, List.set_cons_succ])) | (refine run_chain_off rfl rfl (by rfl) (K0_mono _) ?_; (try simp only [Act.put, List.setIfInBounds_toArray, List.set_cons_zero, List.set_cons_succ])) | ((refine run_want rfl rfl (by rfl) ⟨?_, fun W hW => ?_, ?_⟩; rotate_left; (· (have d0 := hW.keeps.cell id n1; have d1 := hW.keeps.cell id n2; have d2 := hW.keeps.cell id hcx; have d3 := hW.keeps.cell id hcy; have d4 := hW.keeps.cell id g0; have d5 := hW.keeps.cell id g1; have d6 := hW.keeps.cell id k0'; have d7 := hW.keeps.cell id k1'; have d8 := hW.keeps.cell id gf; have d9 := hW.keeps.cell id f1; have d10 := hW.keeps.cell id x1; have d11 := hW.keeps.cell id x2; have d12 := hW.keeps.cell id e2; go_simp; (try with_reducible rfl)))); (try simp only [Act.put, List.setIfInBounds_toArray, List.set_cons_zero, List.set_cons_succ])))
          refine run_end (L := []) rfl (fun Wy hWy => ?_)
          have HT7b := Lib.hid (HT7.out.trans (hWx.trans hWy))
          clear hWx hWy n1 n2 hcx hcy g0 g1 k0' k1' gf f0 f1 f2 f3 f4 f5 x0 x1 x2 x3 x4 x5 e0 e1 e2 e3 e4
          go_wp2
          go_roundw
          case rel => exact ⟨j' + 1, by omega, by go_num, by rw [← HPN.out]; go_num, HT7b.out⟩
          case measure => simp [intOf]; omega
    · as_aux_lemma =>
        have hjn : j = n := by omega
        have hkM : kk = M.length := by rw [HKK.out, hjn, HKM.out]
        have d1 : ((kk : Int) != (M.length : Int)) = false := by rw [hkM]; simp
        clear hjn hkM
        obtain ⟨wo, hwo⟩ : ∃ W, W = wr := ⟨_, rfl⟩
        subst hwo
        go_upto_region 35 with (fail)
        clear d1
        go_loopw [25] (fun sv wi => ∃ s' : Nat, s' ≤ nd ∧ sv = .int .i64 s' ∧ Step wb wi) (fun sv _ => nd - (intOf sv).toNat)
        case atStart => exact ⟨0, Nat.zero_le _, rfl, HTn.out⟩
        case round =>
          obtain ⟨s', hs2, rfl, hT⟩ := hrel
          have HT8 := Lib.hid hT
          clear hT
          obtain ⟨e0, e1, e2, e3, e4⟩ := cells5 (HB.out.step HT8.out)
          by_cases hls : s' < nd
          · go_upto_region 38 with (fail)
            clear e0 e1 e2 e3 e4
            obtain ⟨wq0, hwq0⟩ : ∃ W, W = wr := ⟨_, rfl⟩
            subst hwq0
            go_loopw [26] (fun qv wi => ∃ q : Nat, q ≤ n ∧ qv = .int .i64 q ∧ Step wb wi) (fun qv _ => n - (intOf qv).toNat)
            case atStart => exact ⟨0, Nat.zero_le _, rfl, HT8.out⟩
            case round =>
              obtain ⟨q, hq2, rfl, hT⟩ := hrel
              have HT9 := Lib.hid hT
              clear hT
              by_cases hlq : q < n
              · obtain ⟨rb, ro, rc, g0, g1⟩ := HAC.out s' hls
                have g1 := g1 q hlq
                obtain ⟨xrb, xro, xrc, k0', k1'⟩ := HXC.out s' hls
                have k1' := k1' q hlq
                obtain ⟨ya, hya⟩ : ∃ y, y = seatAt a s' q := ⟨_, rfl⟩
                obtain ⟨yx, hyx⟩ : ∃ y, y = seatAt X.1 s' q := ⟨_, rfl⟩
                rw [← hya] at g1
                rw [← hyx] at k1'
                have HYA := Lib.hid hya
                have HYX := Lib.hid hyx
                clear hya hyx
                have g0 := (HT9.out).keeps.cell id g0; have g1 := (HT9.out).keeps.cell id g1; have k0' := (HT9.out).keeps.cell id k0'; have k1' := (HT9.out).keeps.cell id k1'
                obtain ⟨f0, f1, f2, f3, f4, f5⟩ := cells6 (HBX.out.step HT9.out)
                obtain ⟨x0, x1, x2, x3, x4, x5⟩ := cells6 (HBA.out.step HT9.out)
                have hqx : (0 : Int) ≤ (q : Int) ∧ (q : Int) < (n : Int) := by omega
                have hsx : (0 : Int) ≤ (s' : Int) ∧ (s' : Int) < (nd : Int) := by omega
                by_cases hsi : s' = i
                · have hrow := HMV.out.rowI q
                  subst hsi
                  have hmin : yx = min 0 ya := by
                    have hge := seat_ge HBK.out s' q
                    rw [← HYA.out] at hge
                    rw [← HYX.out, ← HYA.out] at hrow
                    rw [hrow]
                    split <;> omega
                  have d1 : ((s' : Int) != (s' : Int)) = false := by simp
                  have d2 : ((s' : Int) == (s' : Int)) = true := by simp
                  have d3 : (yx != min 0 ya) = false := by rw [hmin]; simp
                  clear hrow hmin
                  go_upto_region 40 with (fail)
                  refine wp_region_seqM (fun c d v a w h => by cases d <;> exact h) (kdOf [] []) (0 :: 0 :: 3 :: 7 :: 15 :: 31 :: 15 :: 127 :: 255 :: 15 :: 1023 :: 2047 :: 4095 :: 8191 :: 16383 :: 32767 :: 65535 :: 32767 :: 262143 :: 524287 :: 32767 :: 2097151 :: 4194303 :: 32767 :: 8421375 :: 32767 :: 58753023 :: 125861887 :: 32767 :: 528515071 :: 1065385983 :: 2147483647 :: 4294967295 :: 8589934591 :: 17179869183 :: 17179869183 :: 68719476735 :: 137438953471 :: 274877906943 :: 549755813887 :: 274877906943 :: 2199023255551 :: 4398046511103 :: 274877906943 :: 17592186044415 :: 35184372088831 :: 274877906943 :: 70643622084607 :: 274877906943 :: 492856087150591 :: 1055806040571903 :: 274877906943 :: 4433505761099775 :: 8937105388470271 :: 17944304643211263 :: 36028797018963967 :: 72057594037927935 :: 144115188075855871 :: []) (0 :: 1 :: 2 :: 3 :: 4 :: 5 :: 6 :: 7 :: 8 :: 9 :: 10 :: 11 :: 12 :: 13 :: 14 :: 15 :: 16 :: 17 :: 18 :: 19 :: 20 :: 21 :: 22 :: 23 :: 24 :: 25 :: 26 :: 27 :: 28 :: 29 :: 30 :: 31 :: 32 :: 33 :: 34 :: 35 :: 36 :: 37 :: 38 :: 39 :: 40 :: 41 :: 42 :: 43 :: 44 :: 45 :: 46 :: 47 :: 48 :: 49 :: 50 :: 51 :: 52 :: 53 :: 54 :: 55 :: 56 :: 57 :: []) [] (by kernel_rfl) (by kernel_rfl) (fun i T z hi hk => by simp [kdOf] at hk <;> (try (split at hk <;> cases hk))) ?_
                  intro Wx hWx
                  have g0 := (hWx).keeps.cell id g0; have g1 := (hWx).keeps.cell id g1; have k0' := (hWx).keeps.cell id k0'; have k1' := (hWx).keeps.cell id k1'; have f1 := (hWx).keeps.cell id f1; have x1 := (hWx).keeps.cell id x1
                  repeat (first | (refine run_off rfl rfl (by rfl) ?_; (try simp only [Act.put, List.setIfInBounds_toArray, List.set_cons_zero, List.set_cons_succ])) | (refine run_chain_off rfl rfl (by rfl) (K0_mono _) ?_; (try simp only [Act.put, List.setIfInBounds_toArray, List.set_cons_zero, List.set_cons_succ])) | ((refine run_want rfl rfl (by rfl) ⟨?_, fun W hW => ?_, ?_⟩; rotate_left; (· (have d0 := hW.keeps.cell id g0; have d1 := hW.keeps.cell id g1; have d2 := hW.keeps.cell id k0'; have d3 := hW.keeps.cell id k1'; have d4 := hW.keeps.cell id f1; have d5 := hW.keeps.cell id x1; go_simp; (try with_reducible rfl)))); (try simp only [Act.put, List.setIfInBounds_toArray, List.set_cons_zero, List.set_cons_succ])))
                  refine run_end (L := []) rfl (fun Wy hWy => ?_)
                  have HT9b := Lib.hid (HT9.out.trans (hWx.trans hWy))
                  clear hWx hWy
                  go_wp2
                  go_roundw
                  case rel => exact ⟨q + 1, by omega, by go_num, HT9b.out⟩
                  case measure => simp [intOf]; omega
                · have d1 : ((s' : Int) != (i : Int)) = true := by rw [bne_iff_ne]; omega
                  have d2 : ((s' : Int) == (i : Int)) = false := by rw [beq_eq_false_iff_ne]; omega
                  by_cases hpa : 0 < ya
                  · have hk2 := HMV.out.keep s' q hsi (by rw [← HYA.out]; omega)
                    rw [← HYX.out, ← HYA.out] at hk2
                    have d3 : decide (0 < ya) = true := decide_eq_true hpa
                    have d4 : (yx != ya) = false := by rw [hk2]; simp
                    clear hk2 hsi
                    go_upto_region 40 with (fail)
                    refine wp_region_seqM (fun c d v a w h => by cases d <;> exact h) (kdOf [] []) (0 :: 0 :: 3 :: 7 :: 15 :: 31 :: 15 :: 127 :: 255 :: 15 :: 1023 :: 2047 :: 4095 :: 8191 :: 16383 :: 32767 :: 65535 :: 32767 :: 262143 :: 524287 :: 32767 :: 2097151 :: 4194303 :: 32767 :: 8421375 :: 32767 :: 58753023 :: 125861887 :: 32767 :: 528515071 :: 1065385983 :: 2147483647 :: 4294967295 :: 8589934591 :: 17179869183 :: 17179869183 :: 68719476735 :: 137438953471 :: 274877906943 :: 549755813887 :: 274877906943 :: 2199023255551 :: 4398046511103 :: 274877906943 :: 17592186044415 :: 35184372088831 :: 274877906943 :: 70643622084607 :: 274877906943 :: 492856087150591 :: 1055806040571903 :: 274877906943 :: 4433505761099775 :: 8937105388470271 :: 17944304643211263 :: 36028797018963967 :: 72057594037927935 :: 144115188075855871 :: []) (0 :: 1 :: 2 :: 3 :: 4 :: 5 :: 6 :: 7 :: 8 :: 9 :: 10 :: 11 :: 12 :: 13 :: 14 :: 15 :: 16 :: 17 :: 18 :: 19 :: 20 :: 21 :: 22 :: 23 :: 24 :: 25 :: 26 :: 27 :: 28 :: 29 :: 30 :: 31 :: 32 :: 33 :: 34 :: 35 :: 36 :: 37 :: 38 :: 39 :: 40 :: 41 :: 42 :: 43 :: 44 :: 45 :: 46 :: 47 :: 48 :: 49 :: 50 :: 51 :: 52 :: 53 :: 54 :: 55 :: 56 :: 57 :: []) [] (by kernel_rfl) (by kernel_rfl) (fun i T z hi hk => by simp [kdOf] at hk <;> (try (split at hk <;> cases hk))) ?_
                    intro Wx hWx
                    have g0 := (hWx).keeps.cell id g0; have g1 := (hWx).keeps.cell id g1; have k0' := (hWx).keeps.cell id k0'; have k1' := (hWx).keeps.cell id k1'; have f1 := (hWx).keeps.cell id f1; have x1 := (hWx).keeps.cell id x1
                    repeat (first | (refine run_off rfl rfl (by rfl) ?_; (try simp only [Act.put, List.setIfInBounds_toArray, List.set_cons_zero, List.set_cons_succ])) | (refine run_chain_off rfl rfl (by rfl) (K0_mono _) ?_; (try simp only [Act.put, List.setIfInBounds_toArray, List.set_cons_zero, List.set_cons_succ])) | ((refine run_want rfl rfl (by rfl) ⟨?_, fun W hW => ?_, ?_⟩; rotate_left; (· (have d0 := hW.keeps.cell id g0; have d1 := hW.keeps.cell id g1; have d2 := hW.keeps.cell id k0'; have d3 := hW.keeps.cell id k1'; have d4 := hW.keeps.cell id f1; have d5 := hW.keeps.cell id x1; go_simp; (try with_reducible rfl)))); (try simp only [Act.put, List.setIfInBounds_toArray, List.set_cons_zero, List.set_cons_succ])))
                    refine run_end (L := []) rfl (fun Wy hWy => ?_)
                    have HT9b := Lib.hid (HT9.out.trans (hWx.trans hWy))
                    clear hWx hWy
                    go_wp2
                    go_roundw
                    case rel => exact ⟨q + 1, by omega, by go_num, HT9b.out⟩
                    case measure => simp [intOf]; omega
                  · have d3 : decide (0 < ya) = false := decide_eq_false hpa
                    clear hsi
                    go_upto_region 40 with (fail)
                    refine wp_region_seqM (fun c d v a w h => by cases d <;> exact h) (kdOf [] []) (0 :: 0 :: 3 :: 7 :: 15 :: 31 :: 15 :: 127 :: 255 :: 15 :: 1023 :: 2047 :: 4095 :: 8191 :: 16383 :: 32767 :: 65535 :: 32767 :: 262143 :: 524287 :: 32767 :: 2097151 :: 4194303 :: 32767 :: 8421375 :: 32767 :: 58753023 :: 125861887 :: 32767 :: 528515071 :: 1065385983 :: 2147483647 :: 4294967295 :: 8589934591 :: 17179869183 :: 17179869183 :: 68719476735 :: 137438953471 :: 274877906943 :: 549755813887 :: 274877906943 :: 2199023255551 :: 4398046511103 :: 274877906943 :: 17592186044415 :: 35184372088831 :: 274877906943 :: 70643622084607 :: 274877906943 :: 492856087150591 :: 1055806040571903 :: 274877906943 :: 4433505761099775 :: 8937105388470271 :: 17944304643211263 :: 36028797018963967 :: 72057594037927935 :: 144115188075855871 :: []) (0 :: 1 :: 2 :: 3 :: 4 :: 5 :: 6 :: 7 :: 8 :: 9 :: 10 :: 11 :: 12 :: 13 :: 14 :: 15 :: 16 :: 17 :: 18 :: 19 :: 20 :: 21 :: 22 :: 23 :: 24 :: 25 :: 26 :: 27 :: 28 :: 29 :: 30 :: 31 :: 32 :: 33 :: 34 :: 35 :: 36 :: 37 :: 38 :: 39 :: 40 :: 41 :: 42 :: 43 :: 44 :: 45 :: 46 :: 47 :: 48 :: 49 :: 50 :: 51 :: 52 :: 53 :: 54 :: 55 :: 56 :: 57 :: []) [] (by kernel_rfl) (by kernel_rfl) (fun i T z hi hk => by simp [kdOf] at hk <;> (try (split at hk <;> cases hk))) ?_
                    intro Wx hWx
                    have g0 := (hWx).keeps.cell id g0; have g1 := (hWx).keeps.cell id g1; have k0' := (hWx).keeps.cell id k0'; have k1' := (hWx).keeps.cell id k1'; have f1 := (hWx).keeps.cell id f1; have x1 := (hWx).keeps.cell id x1
                    repeat (first | (refine run_off rfl rfl (by rfl) ?_; (try simp only [Act.put, List.setIfInBounds_toArray, List.set_cons_zero, List.set_cons_succ])) | (refine run_chain_off rfl rfl (by rfl) (K0_mono _) ?_; (try simp only [Act.put, List.setIfInBounds_toArray, List.set_cons_zero, List.set_cons_succ])) | ((refine run_want rfl rfl (by rfl) ⟨?_, fun W hW => ?_, ?_⟩; rotate_left; (· (have d0 := hW.keeps.cell id g0; have d1 := hW.keeps.cell id g1; have d2 := hW.keeps.cell id k0'; have d3 := hW.keeps.cell id k1'; have d4 := hW.keeps.cell id f1; have d5 := hW.keeps.cell id x1; go_simp; (try with_reducible rfl)))); (try simp only [Act.put, List.setIfInBounds_toArray, List.set_cons_zero, List.set_cons_succ])))
                    refine run_end (L := []) rfl (fun Wy hWy => ?_)
                    have HT9b := Lib.hid (HT9.out.trans (hWx.trans hWy))
                    clear hWx hWy
                    go_wp2
                    go_roundw
                    case rel => exact ⟨q + 1, by omega, by go_num, HT9b.out⟩
                    case measure => simp [intOf]; omega
              · go_wp2
                go_roundw
                case rel => exact ⟨s' + 1, by omega, by go_num, HT9.out⟩
                case measure => simp [intOf]; omega
          · have HT := HT8
            go_wp2_with fail
            refine (awake_any _).mono ?_
            rintro e wz ⟨rfl, hSz⟩
            go_wp2
            go_ret
            exact ⟨rfl, HS.out.trans (HT.out.trans hSz)⟩
end Go.Proofs.Ytgpiieogiafdoaa
