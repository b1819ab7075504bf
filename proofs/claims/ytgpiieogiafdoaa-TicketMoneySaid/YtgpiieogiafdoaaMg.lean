/- Walks and plain laws, part g. -/
import Derived.Test.YtgpiieogiafdoaaMc
import Derived.Test.YtgpiieogiafdoaaMe
import Derived.Test.YtgpiieogiafdoaaMf
/- Walks: the law TicketMoney: it answers true. -/
namespace Go.Proofs.Ytgpiieogiafdoaa
set_option linter.unusedSimpArgs false
set_option linter.unusedVariables false
open Go.RowKit Go.BT
set_option maxRecDepth 100000 in
set_option maxHeartbeats 8000000 in
theorem TicketMoney_any (h : House) (l : List ActT) (g1 s n y dd : Int) (v u : Value) (w : World) (hv : AV (fun _ => False) w v h) (hu : SL (fun _ => False) w u l) (w1 : (Lit.int .u8 g1).wf = true) :
    Calls Try.prog 5 #[v, u, .int .u8 g1, .int .i64 s, .int .i64 n, .int .i64 y, .int .i64 dd] w fun e w' => e = .returned (.bool true) ∧ Step w w' := by
  obtain ⟨c0, c1, c2, c3, c4, rfl, h0, h1, h2, h3, h4⟩ := hv.house
  obtain ⟨p0, k0, rfl⟩ := h0.form
  obtain ⟨p1, k1, rfl⟩ := h1.form
  obtain ⟨p2, k2, rfl⟩ := h2.form
  obtain ⟨p3, k3, rfl⟩ := h3.form
  obtain ⟨p4, k4, rfl⟩ := h4.form
  obtain ⟨pu, ku, rfl⟩ := hu.form
  obtain ⟨W0, hW0⟩ : ∃ W0, W0 = w.alloc (.cells #[.slice p0 h.sectors.length k0, .slice p1 h.prices.length k1, .slice p2 h.dates.length k2, .slice p3 h.frm.length k3, .slice p4 h.holds.length k4] 26) := ⟨_, rfl⟩
  have hS : Step w W0 := by subst hW0; exact Step.alloc _ _
  have hb0 : Bx W0 w.heap.size [.slice p0 h.sectors.length k0, .slice p1 h.prices.length k1, .slice p2 h.dates.length k2, .slice p3 h.frm.length k3, .slice p4 h.holds.length k4] 26 := by subst hW0; exact Bx.new _ [_, _, _, _, _] _
  have HH := Lib.hid (hv.keep (.of_step hS))
  have HU := Lib.hid (hu.keep (.of_step hS))
  have HPR := Lib.hid (h1.keep (.of_step hS))
  have HS := Lib.hid hS
  have HB := Lib.hid hb0
  have HW := Lib.hid hW0
  clear hv hu hS hb0 hW0 h0 h1 h2 h3 h4
  have HG := Lib.hid w1
  clear w1
  go_enter Try.func5, Try.ntmps5
  go_upto_region 1 with (fail)
  rw [← HW.out]
  clear HW
  obtain ⟨e0, e1, e2, e3, e4⟩ := cells5 HB.out
  go_wp2_with fail
  refine (may_any (fun _ => False) h l _ _ _ HH.out HU.out).mono ?_
  rintro e wn ⟨rfl, hSn⟩
  have HT := Lib.hid hSn
  clear hSn e0 e1 e2 e3 e4
  cases qm : mayB h l with
  | false =>
    clear qm
    go_wp2_with fail
    refine (awake_any _).mono ?_
    rintro e wz ⟨rfl, hSz⟩
    go_wp2
    go_ret
    exact ⟨rfl, HS.out.trans (HT.out.trans hSz)⟩
  | true =>
  have HM := Lib.hid qm
  clear qm
  obtain ⟨e0, e1, e2, e3, e4⟩ := cells5 (HB.out.step HT.out)
  go_wp2_with fail
  refine (ran_any (fun _ => False) h l _ _ _ (HH.out.keep (.of_step HT.out)) (HU.out.keep (.of_step HT.out)) HM.out).mono ?_
  rintro e w2 ⟨vw, rfl, hvw, hSn⟩
  obtain ⟨b0, b1, rfl, s0, s1⟩ := hvw.wd
  obtain ⟨q0, r0, rfl⟩ := s0.form
  obtain ⟨q1, r1, rfl⟩ := s1.form
  have HV := Lib.hid (may_parts HM.out)
  have HI := Lib.hid (world_inv HV.out.1 l l.length)
  have HTO := Lib.hid (fun i => took_le HV.out.1 l l.length i)
  have HLE := Lib.hid (msgs_le HV.out.1 l l.length)
  obtain ⟨W, hW⟩ : ∃ W, W = worldAt h l l.length := ⟨_, rfl⟩
  rw [← hW] at s0 s1 HI HTO HLE ⊢
  have HSB := Lib.hid (And.intro s0 s1)
  have HT2 := Lib.hid (HT.out.trans hSn)
  clear HT s0 s1 hvw hSn hW e0 e1 e2 e3 e4
  have HT := HT2
  clear HT2
  obtain ⟨lm, hlm⟩ : ∃ n, n = W.msgs.length := ⟨_, rfl⟩
  rw [← hlm]
  have HLM := Lib.hid hlm
  clear hlm
  go_upto_region 4 with (fail)
  obtain ⟨W3, hW3⟩ : ∃ W3, W3 = w2.alloc (.cells #[.slice q0 W.books.length r0, .slice q1 lm r1] 33) := ⟨_, rfl⟩
  have hb3 : Bx W3 w2.heap.size [.slice q0 W.books.length r0, .slice q1 lm r1] 33 := by subst hW3; exact Bx.new _ [_, _] _
  have hS3 : Step w2 W3 := by subst hW3; exact Step.alloc _ _
  rw [← hW3]
  have HB3 := Lib.hid hb3
  have HSB3 := Lib.hid (And.intro ((HSB.out.1.weak (T := fun _ => False) fun _ _ h => h.elim).keep (.of_step hS3)) ((HSB.out.2.weak (T := fun _ => False) fun _ _ h => h.elim).keep (.of_step hS3)))
  have HT2 := Lib.hid (HT.out.trans hS3)
  clear HT hb3 hS3 hW3 HSB
  have HT := HT2
  clear HT2
  obtain ⟨y0, y1⟩ : W3.cell? ⟨w2.heap.size, 0, none⟩ = some (.slice q0 W.books.length r0) ∧ W3.cell? ⟨w2.heap.size, 1, none⟩ = some (.slice q1 lm r1) := ⟨HB3.out.cell 0, HB3.out.cell 1⟩
  go_upto_region 6 with (fail)
  have hnb : 0 < W.books.length := by have := HI.out.ok.len; have := bounds_valid HV.out.1; omega
  obtain ⟨i, hgi, hib, hgw, _, _⟩ := u8_mod HG.out hnb
  obtain ⟨pQ, cQ, bb, bo, he, _, _, hpb, hcb, _⟩ := HSB3.out.1.books
  injection he with he1 he2 he3
  clear he2 he3
  have hpb := hpb hnb
  rw [← he1] at hpb
  subst hpb
  obtain ⟨b1, b2, b4, ⟨f0, f1, f2, f3, f4, f5⟩, s1, s2, s4⟩ := hcb i hib
  have hba : W.books[i] = bk W i := (bk_at hib).symm
  rw [hba] at f0 f3 f5 s1 s2 s4
  obtain ⟨a, ha⟩ : ∃ a, a = bk W i := ⟨_, rfl⟩
  rw [← ha] at f0 f3 f5 s1 s2 s4
  have HA := Lib.hid (And.intro ha hib)
  have HS3 := Lib.hid (And.intro s1 (And.intro s2 s4))
  have hrg : (0 : Int) ≤ (i : Int) ∧ (i : Int) < (W.books.length : Int) := by omega
  have hdv : ((W.books.length : Int) == 0) = false := by rw [beq_eq_false_iff_ne]; omega
  have hwi : IntKind.i64.wrap (i : Int) = (i : Int) := by have := HI.out.ok.len; have := bounds_valid HV.out.1; rw [IntKind.wrap_i64]; omega
  have hgt : IntKind.i64.wrap (g1.tmod (W.books.length : Int)) = (i : Int) := by rw [hgi]; exact hwi
  have hne : ¬ (W.books.length : Int) = 0 := by omega
  have hne2 : ¬ W.books.length = 0 := by omega
  clear he1 hcb hba ha s1 s2 s4
  obtain ⟨r4, l4, hf4⟩ := HS3.out.2.2.form
  obtain ⟨r2, l2, hf2⟩ := HS3.out.2.1.form
  obtain ⟨r1', l1, hf1⟩ := HS3.out.1.form
  subst hf4 hf2 hf1
  have HT3 := HT
  refine wp_region_seqM (fun c d v a w h => by cases d <;> exact h) (kdOf [] [(10, 39, .agg #[.int .i64 0, .slice none 0 0, .slice none 0 0, .int .i64 0, .slice none 0 0, .int .i64 0])]) [0, 1, 0, 4, 0, 16, 48, 124, 255, 511, 0, 2047] [0, 1, 2, 3, 4, 5, 6, 7, 8, 9, 10] [11] (by kernel_rfl) (by kernel_rfl) (fun i T z hi hk => by simp only [List.mem_cons, List.not_mem_nil, or_false] at hi; rcases hi with rfl | rfl | rfl | rfl | rfl | rfl | rfl | rfl | rfl | rfl | rfl <;> simp [kdOf] at hk <;> (obtain ⟨rfl, rfl⟩ := hk; first | (show Option.bind _ _ = some _; kernel_rfl) | (refine ⟨_, rfl, fun _ _ => ?_⟩; go_simp))) ?_
  intro Wx hWx
  have y0 := (hWx).keeps.cell id y0; have f0 := (hWx).keeps.cell id f0; have f1 := (hWx).keeps.cell id f1; have f2 := (hWx).keeps.cell id f2; have f3 := (hWx).keeps.cell id f3; have f4 := (hWx).keeps.cell id f4; have f5 := (hWx).keeps.cell id f5
  repeat (first | (refine run_off rfl rfl (by rfl) ?_; (try simp only [Act.put, List.setIfInBounds_toArray, List.set_cons_zero, List.set_cons_succ])) | (refine run_chain_off rfl rfl (by rfl) (K0_mono _) ?_; (try simp only [Act.put, List.setIfInBounds_toArray, List.set_cons_zero, List.set_cons_succ])) | ((refine run_want rfl rfl (by rfl) ⟨?_, fun W hW => ?_, ?_⟩; rotate_left; (· (have d0 := hW.keeps.cell id y0; have d1 := hW.keeps.cell id f0; have d2 := hW.keeps.cell id f1; have d3 := hW.keeps.cell id f2; have d4 := hW.keeps.cell id f3; have d5 := hW.keeps.cell id f4; have d6 := hW.keeps.cell id f5; go_simp; (try with_reducible rfl)))); (try simp only [Act.put, List.setIfInBounds_toArray, List.set_cons_zero, List.set_cons_succ])))
  clear y0 f0 f1 f2 f3 f4 f5 hrg hdv hwi hgi hgw hgt hne hne2
  refine run_alloc rfl rfl (fun W5 ga hW5 hg hgb hgN => ?_)
  (try simp only [Act.put, List.setIfInBounds_toArray, List.set_cons_zero, List.set_cons_succ])
  repeat (first | (refine run_off rfl rfl (by rfl) ?_; (try simp only [Act.put, List.setIfInBounds_toArray, List.set_cons_zero, List.set_cons_succ])) | (refine run_chain_off rfl rfl (by rfl) (K0_mono _) ?_; (try simp only [Act.put, List.setIfInBounds_toArray, List.set_cons_zero, List.set_cons_succ])) | ((refine run_want rfl rfl (by rfl) ⟨?_, fun W hW => ?_, ?_⟩; rotate_left; (· (skip; go_simp; (try with_reducible rfl)))); (try simp only [Act.put, List.setIfInBounds_toArray, List.set_cons_zero, List.set_cons_succ])))
  refine run_end (L := [_]) rfl (fun W6 hW6 => ?_)
  have hb6 := Bx.step (w := W5) (cs := [_, _, _, _, _, _]) hg hW6
  refine wpl_store (v := .agg #[.int .i64 a.agency, .slice r1' a.seats.length l1, .slice r2 a.off.length l2, .int .i64 a.sent, .slice r4 a.took.length l4, .int .i64 a.cash]) rfl _ _ _ rfl rfl rfl hb6 (by kernel_rfl) (by simp [Value.cells]) (by simp [Value.cells, Value.oneCell']) [.int .i64 a.agency, .slice r1' a.seats.length l1, .slice r2 a.off.length l2, .int .i64 a.sent, .slice r4 a.took.length l4, .int .i64 a.cash] rfl (fun w8 hb8 hw8 => ?_)
  have HBA := Lib.hid hb8
  have HTw := Lib.hid (Step.wrote ((hWx.trans hW5).trans hW6) hw8 hgb)
  clear hWx hW5 hg hgb hgN hW6 hb6 hb8 hw8
  have HT8 := Lib.hid (HT.out.trans HTw.out)
  have HSB8 := Lib.hid (And.intro (HSB3.out.1.keep (.of_step HTw.out)) (HSB3.out.2.keep (.of_step HTw.out)))
  have HS8 := Lib.hid (And.intro (HS3.out.1.keep (.of_step HTw.out)) (And.intro (HS3.out.2.1.keep (.of_step HTw.out)) (HS3.out.2.2.keep (.of_step HTw.out))))
  have HB8 := Lib.hid (HB3.out.step HTw.out)
  clear HT HT3 HTw HSB3 HS3 HB3
  have HT := HT8
  clear HT8
  have HAA := Lib.hid (show AV (fun _ => False) w8 _ a from ⟨_, rfl, _, _, _, rfl, HS8.out.1, HS8.out.2.1, HS8.out.2.2⟩)
  have HBK := Lib.hid (show bookB h a = true by rw [HA.out.1]; exact book_valid HI.out HA.out.2)
  clear HSB8 HS8 HB8 HI HTO HLE HLM y1 HU
  replace HH := Lib.hid (HH.out.keep (.of_step HT.out)); replace HPR := Lib.hid (HPR.out.keep (.of_step HT.out)); replace HB := Lib.hid (HB.out.step HT.out); replace HS := Lib.hid (HS.out.trans HT.out)
  clear HT
  go_upto_region 7 with (fail)
  obtain ⟨f0, f1, f2, f3, f4, f5⟩ := cells6 HBA.out
  obtain ⟨e0, e1, e2, e3, e4⟩ := cells5 HB.out
  refine wp_region_seqM (fun c d v a w h => by cases d <;> exact h) (kdOf [1, 3] []) [0, 1, 0, 7, 15, 31, 31, 63, 255] [0, 2, 1, 3, 4, 5, 6, 7, 8] [] (by kernel_rfl) (by kernel_rfl) (fun i T z hi hk => by simp [kdOf] at hk <;> (try (split at hk <;> cases hk))) ?_
  intro Wx hWx
  have e0 := (hWx).keeps.cell id e0; have e1 := (hWx).keeps.cell id e1; have e2 := (hWx).keeps.cell id e2; have e3 := (hWx).keeps.cell id e3; have e4 := (hWx).keeps.cell id e4; have f0 := (hWx).keeps.cell id f0; have f1 := (hWx).keeps.cell id f1; have f2 := (hWx).keeps.cell id f2; have f3 := (hWx).keeps.cell id f3; have f4 := (hWx).keeps.cell id f4; have f5 := (hWx).keeps.cell id f5
  repeat (first | (refine run_off rfl rfl (by rfl) ?_; (try simp only [Act.put, List.setIfInBounds_toArray, List.set_cons_zero, List.set_cons_succ])) | (refine run_chain_off rfl rfl (by rfl) (K0_mono _) ?_; (try simp only [Act.put, List.setIfInBounds_toArray, List.set_cons_zero, List.set_cons_succ])) | ((refine run_want rfl rfl (by rfl) ⟨?_, fun W hW => ?_, ?_⟩; rotate_left; (· (have d0 := hW.keeps.cell id e0; have d1 := hW.keeps.cell id e1; have d2 := hW.keeps.cell id e2; have d3 := hW.keeps.cell id e3; have d4 := hW.keeps.cell id e4; have d5 := hW.keeps.cell id f0; have d6 := hW.keeps.cell id f1; have d7 := hW.keeps.cell id f2; have d8 := hW.keeps.cell id f3; have d9 := hW.keeps.cell id f4; have d10 := hW.keeps.cell id f5; go_simp; (try with_reducible rfl)))); (try simp only [Act.put, List.setIfInBounds_toArray, List.set_cons_zero, List.set_cons_succ])))
  clear e0 e1 e2 e3 e4 f0 f1 f2 f3 f4 f5
  refine run_chain rfl rfl (by rfl) (fun Wi hWi K' hK => ?_)
  have HTi := Lib.hid (hWx.trans hWi)
  clear hWx hWi
  go_simp
  refine (House_any _ h _ _ (HH.out.keep (.of_step HTi.out)) (few_valid HV.out.1)).mono ?_
  rintro e wn ⟨vh, rfl, hvh, hSn⟩
  have HVH := Lib.hid (AV.triv hvh)
  have HT := Lib.hid (HTi.out.trans hSn)
  clear HTi hvh
  refine hK _ _ (StepX.of hSn) ?_
  clear hSn hK
  (try simp only [Act.put, List.setIfInBounds_toArray, List.set_cons_zero, List.set_cons_succ])
  repeat (first | (refine run_off rfl rfl (by rfl) ?_; (try simp only [Act.put, List.setIfInBounds_toArray, List.set_cons_zero, List.set_cons_succ])) | (refine run_chain_off rfl rfl (by rfl) (K0_mono _) ?_; (try simp only [Act.put, List.setIfInBounds_toArray, List.set_cons_zero, List.set_cons_succ])) | ((refine run_want rfl rfl (by rfl) ⟨?_, fun W hW => ?_, ?_⟩; rotate_left; (· (skip; go_simp; (try with_reducible rfl)))); (try simp only [Act.put, List.setIfInBounds_toArray, List.set_cons_zero, List.set_cons_succ])))
  refine run_chain rfl rfl (by rfl) (fun Wi hWi K' hK => ?_)
  have HTi := Lib.hid (HT.out.trans hWi)
  have HVHi := Lib.hid (HVH.out.keep (.of_step hWi))
  clear hWi HT HVH
  go_simp
  refine (Counts_any _ h a _ _ _ HVHi.out (HAA.out.keep (.of_step HTi.out))).mono ?_
  rintro e wn2 ⟨vc, rfl, hvc, hSn⟩
  rw [show checkR h a = 0 by simp [checkR, HV.out.1, HBK.out], show countsR h a = countsL h a by simp [countsR, checkR, HV.out.1, HBK.out]] at *
  obtain ⟨pc, kc, bc, oc, rfl, _, _, hpc, hcc, _⟩ := hvc.rows
  have hcl : (countsL h a).length = h.dates.length := by simp [countsL]
  obtain ⟨lc, hlc⟩ : ∃ l, l = countsL h a := ⟨_, rfl⟩
  rw [← hlc] at hpc hcc hcl ⊢
  have HLC := Lib.hid hlc
  have HCL := Lib.hid hcl
  have HC := Lib.hid (And.intro hpc hcc)
  clear hvc hpc hcc hlc hcl
  refine hK _ _ (StepX.of hSn) ?_
  have HT := Lib.hid (HTi.out.trans hSn)
  clear hSn hK HTi HVHi
  (try simp only [Act.put, List.setIfInBounds_toArray, List.set_cons_zero, List.set_cons_succ])
  repeat (first | (refine run_off rfl rfl (by rfl) ?_; (try simp only [Act.put, List.setIfInBounds_toArray, List.set_cons_zero, List.set_cons_succ])) | (refine run_chain_off rfl rfl (by rfl) (K0_mono _) ?_; (try simp only [Act.put, List.setIfInBounds_toArray, List.set_cons_zero, List.set_cons_succ])) | ((refine run_want rfl rfl (by rfl) ⟨?_, fun W hW => ?_, ?_⟩; rotate_left; (· (skip; go_simp; (try with_reducible rfl)))); (try simp only [Act.put, List.setIfInBounds_toArray, List.set_cons_zero, List.set_cons_succ])))
  refine run_end (L := []) rfl (fun W6 hW6 => ?_)
  have hT6 := HT.out.trans hW6
  have HC := Lib.hid (And.intro HC.out.1 (fun i hi => by
    obtain ⟨u, c1, c2⟩ := HC.out.2 i hi
    exact (⟨u, hW6.keeps.cell id c1, SL.weak (T := fun _ => False) (fun _ _ h => h.elim) (c2.keep (.of_step hW6))⟩ : ∃ u, W6.cell? ⟨bc, oc + i, none⟩ = some u ∧ SL (fun _ => False) W6 u lc[i])))
  replace HH := Lib.hid (HH.out.keep (.of_step hT6)); replace HPR := Lib.hid (HPR.out.keep (.of_step hT6)); replace HAA := Lib.hid (HAA.out.keep (.of_step hT6)); replace HB := Lib.hid (HB.out.step hT6); replace HBA := Lib.hid (HBA.out.step hT6); replace HS := Lib.hid (HS.out.trans hT6)
  clear hT6 hW6 HT
  have HTa := Lib.hid (Step.refl W6)
  obtain ⟨e0, e1, e2, e3, e4⟩ := cells5 HB.out
  have d1 : ((lc.length : Int) != (h.dates.length : Int)) = false := by rw [HCL.out]; simp
  obtain ⟨pp, kp, bp, op, hpe, _, _, hpp, hcp, _⟩ := HPR.out.ints
  injection hpe with hpe1 hpe2 hpe3
  clear hpe2 hpe3
  subst hpe1
  have HP := Lib.hid (And.intro hpp hcp)
  clear hpp hcp
  go_upto_region 12 with (fail)
  clear d1 e0 e1 e2 e3 e4
  have hl6 : lc.length ≤ 6 := by have := HCL.out; have := bounds_valid HV.out.1; omega
  go_loopw [20, 21] (fun sv i wr => ∃ k : Nat, k ≤ lc.length ∧ i = .int .i64 k ∧ sv = .int .i64 (moneyTo h a k) ∧ Step W6 wr) (fun _ i _ => lc.length - (intOf i).toNat)
  case atStart => exact ⟨0, Nat.zero_le _, rfl, rfl, HTa.out⟩
  case round =>
    obtain ⟨k, hk, rfl, rfl, hT⟩ := hrel
    have HTn := Lib.hid hT
    clear hT
    obtain ⟨e0, e1, e2, e3, e4⟩ := cells5 (HB.out.step HTn.out)
    by_cases hlt : k < lc.length
    · obtain rfl := HC.out.1 (by omega)
      obtain ⟨ua, a0, a1⟩ := HC.out.2 k hlt
      have hrow : ∀ (L : List (List Count)) (hL : k < L.length), L = countsL h a → L[k] = rowC h a k (ofL h) := by intro L hL e; subst e; simp [countsL]
      have hrk := hrow lc hlt HLC.out
      obtain ⟨R, hR⟩ : ∃ R, R = lc[k] := ⟨_, rfl⟩
      rw [← hR] at a1 hrk
      clear hR hrow
      have hRl : R.length = h.prices.length := by rw [hrk]; simp [rowC]
      have hRs : ∀ j (hj : j < R.length), R[j].sold = cntW a k isS (ofL h j) := by intro j hj; subst hrk; rw [rowC_get hj]
      obtain ⟨p3, c3, b3, o3, rfl, _, hm3, hp3, hc3, _⟩ := a1.counts
      have HCA := Lib.hid (And.intro hp3 hc3)
      have HRS := Lib.hid (And.intro hRl hRs)
      have HA0 := Lib.hid a0
      clear a1 hp3 hc3 a0 hrk hRl hRs
      have a0 := HTn.out.keeps.cell id HA0.out
      have hix : (0 : Int) ≤ (k : Int) ∧ (k : Int) < (lc.length : Int) := by omega
      have d1 : ((R.length : Int) != (h.prices.length : Int)) = false := by rw [HRS.out.1]; simp
      have HBK1 := Lib.hid (moneyTo_bound HV.out.1 a k (by have := HCL.out; omega))
      go_wp2
      go_quiet (fail)
      clear a0 d1 e0 e1 e2 e3 e4
      obtain ⟨wo, hwo⟩ : ∃ W, W = wr := ⟨_, rfl⟩
      subst hwo
      go_wp2
      go_loopw [20, 22] (fun sv i wi => ∃ j : Nat, j ≤ R.length ∧ i = .int .i64 j ∧ sv = .int .i64 (moneyTo h a k + soldTo h a k (ofL h) j) ∧ Step W6 wi) (fun _ i _ => R.length - (intOf i).toNat)
      case atStart => exact ⟨0, Nat.zero_le _, rfl, by simp [soldTo], HTn.out.trans (Step.drewN _ _)⟩
      case round =>
        obtain ⟨j, hj, rfl, rfl, hT⟩ := hrel
        have HTj := Lib.hid hT
        clear hT
        have a0 := HTj.out.keeps.cell id HA0.out
        obtain ⟨e0, e1, e2, e3, e4⟩ := cells5 (HB.out.step HTj.out)
        have hsb := soldTo_bound HV.out.1 a k j (by have := HRS.out.1; omega)
        have hmb := HBK1.out
        have hp5 := prices5 HV.out.1
        have hd6 := bounds_valid HV.out.1
        by_cases hltj : j < R.length
        · have hjp : j < h.prices.length := by have := HRS.out.1; omega
          have hsn := soldTo_bound HV.out.1 a k (j + 1) (by omega)
          have hst : soldTo h a k (ofL h) (j + 1) = soldTo h a k (ofL h) j + R[j].sold * h.prices[j] := by
            show soldTo h a k (ofL h) j + cntW a k isS (ofL h j) * h.prices.getD j 0 = _
            rw [HRS.out.2 j hltj]
            simp [List.getD_eq_getElem?_getD, hjp]
          obtain ⟨S0, hS0⟩ : ∃ z, z = moneyTo h a k + soldTo h a k (ofL h) j := ⟨_, rfl⟩
          obtain ⟨m, hm⟩ : ∃ z, z = R[j].sold * h.prices[j] := ⟨_, rfl⟩
          rw [← hm] at hst
          have hkl : k ≤ h.dates.length := by have := HCL.out; omega
          have hmr : 0 ≤ S0 ∧ S0 ≤ 50000000 := by omega
          have hmm : -100000000 ≤ m ∧ m ≤ 100000000 := by omega
          have hw1 : IntKind.i64.wrap (R[j].sold * h.prices[j]) = m := by rw [← hm, IntKind.wrap_i64]; omega
          have hw2 : IntKind.i64.wrap (S0 + m) = S0 + m := by rw [IntKind.wrap_i64]; omega
          have HNX := Lib.hid (show S0 + m = moneyTo h a k + soldTo h a k (ofL h) (j + 1) by omega)
          obtain rfl := HCA.out.1 (by omega)
          obtain rfl := HP.out.1 (by omega)
          obtain ⟨n0, n1q⟩ := HCA.out.2 j hltj
          have n1 := HTj.out.keeps.cell id n1q
          have n2 := HTj.out.keeps.cell id (HP.out.2 j hjp)
          have hjx : (0 : Int) ≤ (j : Int) ∧ (j : Int) < (R.length : Int) := by omega
          have hjy : (0 : Int) ≤ (j : Int) ∧ (j : Int) < (h.prices.length : Int) := by omega
          rw [← hS0]
          have hlj : j < R.length := hltj
          clear hsb hmb hd6 hsn hst hS0 hm hmr hmm n0 n1q hp5
          obtain ⟨x, hx⟩ : ∃ x, x = R[j].sold := ⟨_, rfl⟩
          obtain ⟨y, hy⟩ : ∃ y, y = h.prices[j] := ⟨_, rfl⟩
          rw [← hx] at n1 hw1
          rw [← hy] at n2 hw1
          clear hx hy hltj
          go_wp2
          go_quiet (fail)
          go_wp2
          go_roundw
          case rel => exact ⟨j + 1, by omega, by go_num, by rw [← HNX.out], HTj.out.trans (Step.drewN _ _)⟩
          case measure => simp [intOf]; omega
        · have hjR : j = h.prices.length := by have := HRS.out.1; omega
          have HNX := Lib.hid (show moneyTo h a k + soldTo h a k (ofL h) j = moneyTo h a (k + 1) by rw [hjR]; rfl)
          clear hsb hmb hd6 hp5 hjR
          go_wp2
          go_roundw
          case rel => exact ⟨k + 1, by omega, by go_num, by rw [← HNX.out], HTj.out⟩
          case measure => simp [intOf]; omega
    · have hkl : k = h.dates.length := by have := HCL.out; omega
      have d1 : (moneyTo h a k != a.cash) = false := by rw [hkl, money_full HV.out.1 HBK.out]; simp
      obtain ⟨f0, f1, f2, f3, f4, f5⟩ := cells6 (HBA.out.step HTn.out)
      obtain ⟨S0, hS0⟩ : ∃ z, z = moneyTo h a k := ⟨_, rfl⟩
      rw [← hS0] at d1 ⊢
      clear hkl hS0
      go_upto_region 22 with (fail)
      clear d1 f0 f1 f2 f3 f4 f5 e0 e1 e2 e3 e4
      replace HH := Lib.hid (HH.out.keep (.of_step HTn.out)); replace HPR := Lib.hid (HPR.out.keep (.of_step HTn.out)); replace HAA := Lib.hid (HAA.out.keep (.of_step HTn.out)); replace HB := Lib.hid (HB.out.step HTn.out); replace HBA := Lib.hid (HBA.out.step HTn.out); replace HS := Lib.hid (HS.out.trans HTn.out)
      clear HTn HC HP HCL HLC HTa
      obtain ⟨f0, f1, f2, f3, f4, f5⟩ := cells6 HBA.out
      obtain ⟨e0, e1, e2, e3, e4⟩ := cells5 HB.out
      refine wp_region_seqM (fun c d v a w h => by cases d <;> exact h) (kdOf [1, 7] [(11, 39, .agg #[.int .i64 0, .slice none 0 0, .slice none 0 0, .int .i64 0, .slice none 0 0, .int .i64 0])]) [0, 1, 0, 0, 0, 0, 0, 127, 255, 511, 511, 0, 3071, 8191] [0, 2, 3, 4, 5, 6, 1, 7, 8, 9, 10, 11] [12, 13] (by kernel_rfl) (by kernel_rfl) (fun i T z hi hk => by simp only [List.mem_cons, List.not_mem_nil, or_false] at hi; rcases hi with rfl | rfl | rfl | rfl | rfl | rfl | rfl | rfl | rfl | rfl | rfl | rfl <;> simp [kdOf] at hk <;> (obtain ⟨rfl, rfl⟩ := hk; first | (show Option.bind _ _ = some _; kernel_rfl) | (refine ⟨_, rfl, fun _ _ => ?_⟩; go_simp))) ?_
      intro Wx hWx
      have e0 := (hWx).keeps.cell id e0; have e1 := (hWx).keeps.cell id e1; have e2 := (hWx).keeps.cell id e2; have e3 := (hWx).keeps.cell id e3; have e4 := (hWx).keeps.cell id e4; have f0 := (hWx).keeps.cell id f0; have f1 := (hWx).keeps.cell id f1; have f2 := (hWx).keeps.cell id f2; have f3 := (hWx).keeps.cell id f3; have f4 := (hWx).keeps.cell id f4; have f5 := (hWx).keeps.cell id f5
      repeat (first | (refine run_off rfl rfl (by rfl) ?_; (try simp only [Act.put, List.setIfInBounds_toArray, List.set_cons_zero, List.set_cons_succ])) | (refine run_chain_off rfl rfl (by rfl) (K0_mono _) ?_; (try simp only [Act.put, List.setIfInBounds_toArray, List.set_cons_zero, List.set_cons_succ])) | ((refine run_want rfl rfl (by rfl) ⟨?_, fun W hW => ?_, ?_⟩; rotate_left; (· (have d0 := hW.keeps.cell id e0; have d1 := hW.keeps.cell id e1; have d2 := hW.keeps.cell id e2; have d3 := hW.keeps.cell id e3; have d4 := hW.keeps.cell id e4; have d5 := hW.keeps.cell id f0; have d6 := hW.keeps.cell id f1; have d7 := hW.keeps.cell id f2; have d8 := hW.keeps.cell id f3; have d9 := hW.keeps.cell id f4; have d10 := hW.keeps.cell id f5; go_simp; (try with_reducible rfl)))); (try simp only [Act.put, List.setIfInBounds_toArray, List.set_cons_zero, List.set_cons_succ])))
      clear e0 e1 e2 e3 e4 f0 f1 f2 f3 f4 f5
      refine run_chain rfl rfl (by rfl) (fun Wi hWi K' hK => ?_)
      have HTi := Lib.hid (hWx.trans hWi)
      clear hWx hWi
      go_simp
      refine (House_any _ h _ _ (HH.out.keep (.of_step HTi.out)) (few_valid HV.out.1)).mono ?_
      rintro e wn ⟨vh, rfl, hvh, hSn⟩
      have HVH := Lib.hid (AV.triv hvh)
      have HT := Lib.hid (HTi.out.trans hSn)
      clear HTi hvh
      refine hK _ _ (StepX.of hSn) ?_
      clear hSn hK
      (try simp only [Act.put, List.setIfInBounds_toArray, List.set_cons_zero, List.set_cons_succ])
      repeat (first | (refine run_off rfl rfl (by rfl) ?_; (try simp only [Act.put, List.setIfInBounds_toArray, List.set_cons_zero, List.set_cons_succ])) | (refine run_chain_off rfl rfl (by rfl) (K0_mono _) ?_; (try simp only [Act.put, List.setIfInBounds_toArray, List.set_cons_zero, List.set_cons_succ])) | ((refine run_want rfl rfl (by rfl) ⟨?_, fun W hW => ?_, ?_⟩; rotate_left; (· (skip; go_simp; (try with_reducible rfl)))); (try simp only [Act.put, List.setIfInBounds_toArray, List.set_cons_zero, List.set_cons_succ])))
      refine run_chain rfl rfl (by rfl) (fun Wi hWi K' hK => ?_)
      have HTi := Lib.hid (HT.out.trans hWi)
      have HVHi := Lib.hid (HVH.out.keep (.of_step hWi))
      clear hWi HT HVH
      go_simp
      refine (Sell_any _ h a _ _ s n y dd _ HVHi.out (HAA.out.keep (.of_step HTi.out))).mono ?_
      rintro e wn2 ⟨v6, rfl, hv6, hSn⟩
      rw [act_code HV.out.1 HBK.out] at hv6 ⊢
      obtain ⟨P, hP⟩ : ∃ P, P = actR (sellD h a s n y dd) := ⟨_, rfl⟩
      rw [← hP] at hv6 ⊢
      have HP := Lib.hid hP
      clear hP
      have HT := Lib.hid (HTi.out.trans hSn)
      clear HVHi HTi
      obtain ⟨x1, x2, x4, rfl, t1, t2, t4⟩ := hv6.book
      obtain ⟨raP, naP, rfl⟩ := t1.form
      obtain ⟨rbP, nbP, rfl⟩ := t2.form
      obtain ⟨rcP, ncP, rfl⟩ := t4.form
      have HAP := Lib.hid hv6
      clear t1 t2 t4 hv6
      refine hK _ _ (StepX.of hSn) ?_
      clear hSn hK
      (try simp only [Act.put, List.setIfInBounds_toArray, List.set_cons_zero, List.set_cons_succ])
      repeat (first | (refine run_off rfl rfl (by rfl) ?_; (try simp only [Act.put, List.setIfInBounds_toArray, List.set_cons_zero, List.set_cons_succ])) | (refine run_chain_off rfl rfl (by rfl) (K0_mono _) ?_; (try simp only [Act.put, List.setIfInBounds_toArray, List.set_cons_zero, List.set_cons_succ])) | ((refine run_want rfl rfl (by rfl) ⟨?_, fun W hW => ?_, ?_⟩; rotate_left; (· (skip; go_simp; (try with_reducible rfl)))); (try simp only [Act.put, List.setIfInBounds_toArray, List.set_cons_zero, List.set_cons_succ])))
      refine run_alloc rfl rfl (fun W5 gaP hW5 hg hgb hgN => ?_)
      have hgoP : ∀ j, j < wn2.heap.size → j = gaP → j < Wi.heap.size := fun j hj hs => by omega
      (try simp only [Act.put, List.setIfInBounds_toArray, List.set_cons_zero, List.set_cons_succ])
      repeat (first | (refine run_off rfl rfl (by rfl) ?_; (try simp only [Act.put, List.setIfInBounds_toArray, List.set_cons_zero, List.set_cons_succ])) | (refine run_chain_off rfl rfl (by rfl) (K0_mono _) ?_; (try simp only [Act.put, List.setIfInBounds_toArray, List.set_cons_zero, List.set_cons_succ])) | ((refine run_want rfl rfl (by rfl) ⟨?_, fun W hW => ?_, ?_⟩; rotate_left; (· (skip; go_simp; (try with_reducible rfl)))); (try simp only [Act.put, List.setIfInBounds_toArray, List.set_cons_zero, List.set_cons_succ])))
      refine run_end (L := [_, _]) rfl (fun W6 hW6 => ?_)
      have hb6 := Bx.step (w := W5) (cs := [_, _, _, _, _, _]) hg hW6
      refine wpl_store (v := .agg #[.int .i64 (P.1).agency, .slice raP (P.1).seats.length naP, .slice rbP (P.1).off.length nbP, .int .i64 (P.1).sent, .slice rcP (P.1).took.length ncP, .int .i64 (P.1).cash]) rfl _ _ _ rfl rfl rfl hb6 (by kernel_rfl) (by simp [Value.cells]) (by simp [Value.cells, Value.oneCell']) [.int .i64 (P.1).agency, .slice raP (P.1).seats.length naP, .slice rbP (P.1).off.length nbP, .int .i64 (P.1).sent, .slice rcP (P.1).took.length ncP, .int .i64 (P.1).cash] rfl (fun wP hb7 hw7 => ?_)
      have hkP : Keeps (fun j => j = gaP) wn2 wP := (Keeps.of_step (hW5.trans hW6)).trans (.wrote hw7 rfl)
      have HTx := Lib.hid (Step.wrote ((HT.out.trans hW5).trans hW6) hw7 hgb)
      replace HAP := Lib.hid (AV.triv (AV.later HAP.out hgoP hkP))
      have HBP := Lib.hid hb7
      clear hW5 hg hgb hgN hW6 hb6 hb7 hw7 HT
      replace HH := Lib.hid (HH.out.keep (.of_step HTx.out)); replace HPR := Lib.hid (HPR.out.keep (.of_step HTx.out)); replace HAA := Lib.hid (HAA.out.keep (.of_step HTx.out)); replace HB := Lib.hid (HB.out.step HTx.out); replace HBA := Lib.hid (HBA.out.step HTx.out); replace HS := Lib.hid (HS.out.trans HTx.out)
      clear HTx hgoP hkP
      go_upto_if 132 with (fail)
      (try simp only [Act.put, List.setIfInBounds_toArray, List.set_cons_zero, List.set_cons_succ])
      obtain ⟨wz, hwz⟩ : ∃ W, W = wP := ⟨_, rfl⟩
      subst hwz
      go_cut [25, 26, 27, 28] (fun _ _ _ _ wx => Step wz wx)
      case first =>
        by_cases z0 : P.2 = 0
        rotate_left
        · have d : (P.2 == 0) = false := by rw [beq_eq_false_iff_ne]; exact z0
          clear z0
          go_wp2
          go_meet
          exact Step.refl _
        have d : (P.2 == 0) = true := by rw [z0]; rfl
        have hsl := sell_ok (h := h) (b := a) (s := s) (n := n) (y := y) (d := dd) (by rw [← HP.out]; exact z0)
        rw [← HP.out] at hsl
        obtain ⟨cl, hcl, hcp, hca, hre⟩ := sell_back HV.out.1 HBK.out hsl
        have hbp : bookB h P.1 = true := (sell_valid HV.out.1 HBK.out hsl).1
        have HSB := Lib.hid (And.intro hcl (And.intro hca (And.intro hre hbp)))
        have HPI := Lib.hid (price_in HV.out.1 hcp)
        have HCI := Lib.hid (And.intro (book_iff.1 HBK.out).2.2.1 (money_bound HV.out.1 HBK.out))
        have hcp2 := hcp
        clear z0 hsl hcl hca hre hbp
        go_upto_region 24 with (fail)
        clear d
        obtain ⟨e0, e1, e2, e3, e4⟩ := cells5 HB.out
        go_wp2_with fail
        refine (House_any _ h _ _ HH.out (few_valid HV.out.1)).mono ?_
        rintro e wn ⟨vh, rfl, hvh, hSn⟩
        have HVH := Lib.hid (AV.triv hvh)
        have HT := Lib.hid hSn
        clear hvh hSn e0 e1 e2 e3 e4
        go_wp2_with fail
        refine (Class_any _ h n _ _ HVH.out).mono ?_
        rintro e wn3 ⟨rfl, hSn⟩
        rw [HSB.out.1]
        dsimp only
        have HT2 := Lib.hid (HT.out.trans hSn)
        clear HVH hSn HT
        replace HH := Lib.hid (HH.out.keep (.of_step HT2.out)); replace HPR := Lib.hid (HPR.out.keep (.of_step HT2.out)); replace HAA := Lib.hid (HAA.out.keep (.of_step HT2.out)); replace HAP := Lib.hid (HAP.out.keep (.of_step HT2.out)); replace HB := Lib.hid (HB.out.step HT2.out); replace HBA := Lib.hid (HBA.out.step HT2.out); replace HBP := Lib.hid (HBP.out.step HT2.out); replace HS := Lib.hid (HS.out.trans HT2.out)
        go_upto_region 25 with (fail)
        obtain ⟨f0, f1, f2, f3, f4, f5⟩ := cells6 HBP.out
        obtain ⟨e0, e1, e2, e3, e4⟩ := cells5 HB.out
        refine wp_region_seqM (fun c d v a w h => by cases d <;> exact h) (kdOf [1, 5] [(9, 39, .agg #[.int .i64 0, .slice none 0 0, .slice none 0 0, .int .i64 0, .slice none 0 0, .int .i64 0])]) [0, 1, 0, 0, 0, 31, 63, 127, 127, 0, 767, 2047] [0, 2, 3, 4, 1, 5, 6, 7, 8, 9] [10, 11] (by kernel_rfl) (by kernel_rfl) (fun i T z hi hk => by simp only [List.mem_cons, List.not_mem_nil, or_false] at hi; rcases hi with rfl | rfl | rfl | rfl | rfl | rfl | rfl | rfl | rfl | rfl <;> simp [kdOf] at hk <;> (obtain ⟨rfl, rfl⟩ := hk; first | (show Option.bind _ _ = some _; kernel_rfl) | (refine ⟨_, rfl, fun _ _ => ?_⟩; go_simp))) ?_
        intro Wx hWx
        have e0 := (hWx).keeps.cell id e0; have e1 := (hWx).keeps.cell id e1; have e2 := (hWx).keeps.cell id e2; have e3 := (hWx).keeps.cell id e3; have e4 := (hWx).keeps.cell id e4; have f0 := (hWx).keeps.cell id f0; have f1 := (hWx).keeps.cell id f1; have f2 := (hWx).keeps.cell id f2; have f3 := (hWx).keeps.cell id f3; have f4 := (hWx).keeps.cell id f4; have f5 := (hWx).keeps.cell id f5
        repeat (first | (refine run_off rfl rfl (by rfl) ?_; (try simp only [Act.put, List.setIfInBounds_toArray, List.set_cons_zero, List.set_cons_succ])) | (refine run_chain_off rfl rfl (by rfl) (K0_mono _) ?_; (try simp only [Act.put, List.setIfInBounds_toArray, List.set_cons_zero, List.set_cons_succ])) | ((refine run_want rfl rfl (by rfl) ⟨?_, fun W hW => ?_, ?_⟩; rotate_left; (· (have d0 := hW.keeps.cell id e0; have d1 := hW.keeps.cell id e1; have d2 := hW.keeps.cell id e2; have d3 := hW.keeps.cell id e3; have d4 := hW.keeps.cell id e4; have d5 := hW.keeps.cell id f0; have d6 := hW.keeps.cell id f1; have d7 := hW.keeps.cell id f2; have d8 := hW.keeps.cell id f3; have d9 := hW.keeps.cell id f4; have d10 := hW.keeps.cell id f5; go_simp; (try with_reducible rfl)))); (try simp only [Act.put, List.setIfInBounds_toArray, List.set_cons_zero, List.set_cons_succ])))
        clear e0 e1 e2 e3 e4 f0 f1 f2 f3 f4 f5
        refine run_chain rfl rfl (by rfl) (fun Wi hWi K' hK => ?_)
        have HTi := Lib.hid (hWx.trans hWi)
        clear hWx hWi
        go_simp
        refine (House_any _ h _ _ (HH.out.keep (.of_step HTi.out)) (few_valid HV.out.1)).mono ?_
        rintro e wn ⟨vh, rfl, hvh, hSn⟩
        have HVH := Lib.hid (AV.triv hvh)
        have HT := Lib.hid (HTi.out.trans hSn)
        clear HTi hvh
        refine hK _ _ (StepX.of hSn) ?_
        clear hSn hK
        (try simp only [Act.put, List.setIfInBounds_toArray, List.set_cons_zero, List.set_cons_succ])
        repeat (first | (refine run_off rfl rfl (by rfl) ?_; (try simp only [Act.put, List.setIfInBounds_toArray, List.set_cons_zero, List.set_cons_succ])) | (refine run_chain_off rfl rfl (by rfl) (K0_mono _) ?_; (try simp only [Act.put, List.setIfInBounds_toArray, List.set_cons_zero, List.set_cons_succ])) | ((refine run_want rfl rfl (by rfl) ⟨?_, fun W hW => ?_, ?_⟩; rotate_left; (· (skip; go_simp; (try with_reducible rfl)))); (try simp only [Act.put, List.setIfInBounds_toArray, List.set_cons_zero, List.set_cons_succ])))
        refine run_chain rfl rfl (by rfl) (fun Wi hWi K' hK => ?_)
        have HTi := Lib.hid (HT.out.trans hWi)
        have HVHi := Lib.hid (HVH.out.keep (.of_step hWi))
        clear hWi HT HVH
        go_simp
        refine (Refund_any _ h P.1 _ _ s n _ HVHi.out (HAP.out.keep (.of_step HTi.out))).mono ?_
        rintro e wn2 ⟨v6, rfl, hv6, hSn⟩
        rw [act_code HV.out.1 HSB.out.2.2.2, HSB.out.2.2.1, show actR (.ok a) = (a, 0) from rfl] at hv6 ⊢
        dsimp only at hv6 ⊢
        have HT := Lib.hid (HTi.out.trans hSn)
        clear HVHi HTi
        obtain ⟨x1, x2, x4, rfl, t1, t2, t4⟩ := hv6.book
        obtain ⟨raQ, naQ, rfl⟩ := t1.form
        obtain ⟨rbQ, nbQ, rfl⟩ := t2.form
        obtain ⟨rcQ, ncQ, rfl⟩ := t4.form
        have HAQ := Lib.hid hv6
        clear t1 t2 t4 hv6
        refine hK _ _ (StepX.of hSn) ?_
        clear hSn hK
        (try simp only [Act.put, List.setIfInBounds_toArray, List.set_cons_zero, List.set_cons_succ])
        repeat (first | (refine run_off rfl rfl (by rfl) ?_; (try simp only [Act.put, List.setIfInBounds_toArray, List.set_cons_zero, List.set_cons_succ])) | (refine run_chain_off rfl rfl (by rfl) (K0_mono _) ?_; (try simp only [Act.put, List.setIfInBounds_toArray, List.set_cons_zero, List.set_cons_succ])) | ((refine run_want rfl rfl (by rfl) ⟨?_, fun W hW => ?_, ?_⟩; rotate_left; (· (skip; go_simp; (try with_reducible rfl)))); (try simp only [Act.put, List.setIfInBounds_toArray, List.set_cons_zero, List.set_cons_succ])))
        refine run_alloc rfl rfl (fun W5 gaQ hW5 hg hgb hgN => ?_)
        have hgoQ : ∀ j, j < wn2.heap.size → j = gaQ → j < Wi.heap.size := fun j hj hs => by omega
        (try simp only [Act.put, List.setIfInBounds_toArray, List.set_cons_zero, List.set_cons_succ])
        repeat (first | (refine run_off rfl rfl (by rfl) ?_; (try simp only [Act.put, List.setIfInBounds_toArray, List.set_cons_zero, List.set_cons_succ])) | (refine run_chain_off rfl rfl (by rfl) (K0_mono _) ?_; (try simp only [Act.put, List.setIfInBounds_toArray, List.set_cons_zero, List.set_cons_succ])) | ((refine run_want rfl rfl (by rfl) ⟨?_, fun W hW => ?_, ?_⟩; rotate_left; (· (skip; go_simp; (try with_reducible rfl)))); (try simp only [Act.put, List.setIfInBounds_toArray, List.set_cons_zero, List.set_cons_succ])))
        refine run_end (L := [_, _]) rfl (fun W6 hW6 => ?_)
        have hb6 := Bx.step (w := W5) (cs := [_, _, _, _, _, _]) hg hW6
        refine wpl_store (v := .agg #[.int .i64 (a).agency, .slice raQ (a).seats.length naQ, .slice rbQ (a).off.length nbQ, .int .i64 (a).sent, .slice rcQ (a).took.length ncQ, .int .i64 (a).cash]) rfl _ _ _ rfl rfl rfl hb6 (by kernel_rfl) (by simp [Value.cells]) (by simp [Value.cells, Value.oneCell']) [.int .i64 (a).agency, .slice raQ (a).seats.length naQ, .slice rbQ (a).off.length nbQ, .int .i64 (a).sent, .slice rcQ (a).took.length ncQ, .int .i64 (a).cash] rfl (fun wQ hb7 hw7 => ?_)
        have hkQ : Keeps (fun j => j = gaQ) wn2 wQ := (Keeps.of_step (hW5.trans hW6)).trans (.wrote hw7 rfl)
        have HTx := Lib.hid (Step.wrote ((HT.out.trans hW5).trans hW6) hw7 hgb)
        replace HAQ := Lib.hid (AV.triv (AV.later HAQ.out hgoQ hkQ))
        have HBQ := Lib.hid hb7
        clear hW5 hg hgb hgN hW6 hb6 hb7 hw7 HT
        replace HH := Lib.hid (HH.out.keep (.of_step HTx.out)); replace HPR := Lib.hid (HPR.out.keep (.of_step HTx.out)); replace HAA := Lib.hid (HAA.out.keep (.of_step HTx.out)); replace HAP := Lib.hid (HAP.out.keep (.of_step HTx.out)); replace HB := Lib.hid (HB.out.step HTx.out); replace HBA := Lib.hid (HBA.out.step HTx.out); replace HBP := Lib.hid (HBP.out.step HTx.out); replace HS := Lib.hid (HS.out.trans HTx.out); replace HT2 := Lib.hid (HT2.out.trans HTx.out)
        clear HTx hgoQ hkQ
        go_upto_region 26 with (fail)
        obtain ⟨e0, e1, e2, e3, e4⟩ := cells5 HB.out
        obtain ⟨f0, f1, f2, f3, f4, f5⟩ := cells6 HBP.out
        obtain ⟨x0, x1, x2, x3, x4, x5⟩ := cells6 HBA.out
        obtain ⟨y0, y1, y2, y3, y4, y5⟩ := cells6 HBQ.out
        obtain ⟨pp2, kp2, bp2, op2, hpe, _, _, hpp, hcp, _⟩ := HPR.out.ints
        injection hpe with hpe1 hpe2 hpe3
        clear hpe2 hpe3
        subst hpe1
        have hcl0 : 0 < h.prices.length := by omega
        obtain rfl := hpp hcl0
        have gq := hcp cl hcp2
        obtain ⟨q, hq⟩ : ∃ q, q = h.prices[cl] := ⟨_, rfl⟩
        have hca := HSB.out.2.1
        have hpi := HPI.out
        rw [← hq] at gq hca hpi
        have hmb := HCI.out.2
        have hw : IntKind.i64.wrap (a.cash + q) = a.cash + q := by rw [IntKind.wrap_i64]; omega
        have d4 : (P.1.cash != a.cash + q) = false := by rw [hca]; simp
        have d2 : decide ((cl : Int) < 0) = false := decide_eq_false (by omega)
        have d3 : decide ((h.prices.length : Int) ≤ (cl : Int)) = false := decide_eq_false (by omega)
        have d3n : decide (h.prices.length ≤ cl) = false := decide_eq_false (by omega)
        have hix : (0 : Int) ≤ (cl : Int) ∧ (cl : Int) < (h.prices.length : Int) := by omega
        have HQA := Lib.hid (show alikeB a a = true by simp [alikeB])
        clear hpp hcp hq hca hpi hmb
        refine wp_region_seqM (fun c d v a w h => by cases d <;> exact h) (kdOf [33] []) (0 :: 1 :: 3 :: 7 :: 15 :: 31 :: 63 :: 127 :: 255 :: 511 :: 1023 :: 2047 :: 2047 :: 6143 :: 14335 :: 32767 :: 65535 :: 131071 :: 262143 :: 524287 :: 262143 :: 1310719 :: 262143 :: 4456447 :: 262143 :: 29622271 :: 63176703 :: 133431295 :: 268435455 :: 536870911 :: 1073741823 :: 2147483647 :: 2147483647 :: 8589934591 :: 17179869183 :: 34359738367 :: []) (0 :: 1 :: 2 :: 3 :: 4 :: 5 :: 6 :: 7 :: 8 :: 9 :: 10 :: 11 :: 12 :: 13 :: 14 :: 15 :: 16 :: 17 :: 18 :: 19 :: 20 :: 21 :: 22 :: 23 :: 24 :: 25 :: 26 :: 27 :: 28 :: 29 :: 30 :: 31 :: 32 :: 33 :: 34 :: 35 :: []) [] (by kernel_rfl) (by kernel_rfl) (fun i T z hi hk => by simp [kdOf] at hk <;> (try (split at hk <;> cases hk))) ?_
        intro Wx hWx
        have e0 := (hWx).keeps.cell id e0; have e1 := (hWx).keeps.cell id e1; have e2 := (hWx).keeps.cell id e2; have e3 := (hWx).keeps.cell id e3; have e4 := (hWx).keeps.cell id e4; have f0 := (hWx).keeps.cell id f0; have f1 := (hWx).keeps.cell id f1; have f2 := (hWx).keeps.cell id f2; have f3 := (hWx).keeps.cell id f3; have f4 := (hWx).keeps.cell id f4; have f5 := (hWx).keeps.cell id f5; have x0 := (hWx).keeps.cell id x0; have x1 := (hWx).keeps.cell id x1; have x2 := (hWx).keeps.cell id x2; have x3 := (hWx).keeps.cell id x3; have x4 := (hWx).keeps.cell id x4; have x5 := (hWx).keeps.cell id x5; have y0 := (hWx).keeps.cell id y0; have y1 := (hWx).keeps.cell id y1; have y2 := (hWx).keeps.cell id y2; have y3 := (hWx).keeps.cell id y3; have y4 := (hWx).keeps.cell id y4; have y5 := (hWx).keeps.cell id y5; have gq := (hWx).keeps.cell id gq
        repeat (first | (refine run_off rfl rfl (by rfl) ?_; (try simp only [Act.put, List.setIfInBounds_toArray, List.set_cons_zero, List.set_cons_succ])) | (refine run_chain_off rfl rfl (by rfl) (K0_mono _) ?_; (try simp only [Act.put, List.setIfInBounds_toArray, List.set_cons_zero, List.set_cons_succ])) | ((refine run_want rfl rfl (by rfl) ⟨?_, fun W hW => ?_, ?_⟩; rotate_left; (· (have d0 := hW.keeps.cell id e0; have d1 := hW.keeps.cell id e1; have d2 := hW.keeps.cell id e2; have d3 := hW.keeps.cell id e3; have d4 := hW.keeps.cell id e4; have d5 := hW.keeps.cell id f0; have d6 := hW.keeps.cell id f1; have d7 := hW.keeps.cell id f2; have d8 := hW.keeps.cell id f3; have d9 := hW.keeps.cell id f4; have d10 := hW.keeps.cell id f5; have d11 := hW.keeps.cell id x0; have d12 := hW.keeps.cell id x1; have d13 := hW.keeps.cell id x2; have d14 := hW.keeps.cell id x3; have d15 := hW.keeps.cell id x4; have d16 := hW.keeps.cell id x5; have d17 := hW.keeps.cell id y0; have d18 := hW.keeps.cell id y1; have d19 := hW.keeps.cell id y2; have d20 := hW.keeps.cell id y3; have d21 := hW.keeps.cell id y4; have d22 := hW.keeps.cell id y5; have d23 := hW.keeps.cell id gq; go_simp; (try with_reducible rfl)))); (try simp only [Act.put, List.setIfInBounds_toArray, List.set_cons_zero, List.set_cons_succ])))
        clear e0 e1 e2 e3 e4 f0 f1 f2 f3 f4 f5 x0 x1 x2 x3 x4 x5 y0 y1 y2 y3 y4 y5 gq
        refine run_chain rfl rfl (by rfl) (fun Wi hWi K' hK => ?_)
        have HTi := Lib.hid (hWx.trans hWi)
        clear hWx hWi
        go_simp
        refine (alike_any (fun _ => False) a a _ _ _ (HAQ.out.keep (.of_step HTi.out)) (HAA.out.keep (.of_step HTi.out))).mono ?_
        rintro e wn4 ⟨rfl, hSn⟩
        rw [HQA.out]
        refine hK _ _ (StepX.of hSn) ?_
        have HT := Lib.hid (HTi.out.trans hSn)
        clear hSn hK HTi
        (try simp only [Act.put, List.setIfInBounds_toArray, List.set_cons_zero, List.set_cons_succ])
        repeat (first | (refine run_off rfl rfl (by rfl) ?_; (try simp only [Act.put, List.setIfInBounds_toArray, List.set_cons_zero, List.set_cons_succ])) | (refine run_chain_off rfl rfl (by rfl) (K0_mono _) ?_; (try simp only [Act.put, List.setIfInBounds_toArray, List.set_cons_zero, List.set_cons_succ])) | ((refine run_want rfl rfl (by rfl) ⟨?_, fun W hW => ?_, ?_⟩; rotate_left; (· (skip; go_simp; (try with_reducible rfl)))); (try simp only [Act.put, List.setIfInBounds_toArray, List.set_cons_zero, List.set_cons_succ])))
        refine run_end (L := []) rfl (fun W7 hW7 => ?_)
        go_wp2
        go_meet
        exact HT2.out.trans (HT.out.trans hW7)
      case rest =>
        replace HH := Lib.hid (HH.out.keep (.of_step hcut)); replace HPR := Lib.hid (HPR.out.keep (.of_step hcut)); replace HAA := Lib.hid (HAA.out.keep (.of_step hcut)); replace HB := Lib.hid (HB.out.step hcut); replace HBA := Lib.hid (HBA.out.step hcut); replace HS := Lib.hid (HS.out.trans hcut)
        clear hcut HAP HBP HP
        go_upto_region 28 with (fail)
        obtain ⟨f0, f1, f2, f3, f4, f5⟩ := cells6 HBA.out
        obtain ⟨e0, e1, e2, e3, e4⟩ := cells5 HB.out
        refine wp_region_seqM (fun c d v a w h => by cases d <;> exact h) (kdOf [1, 5] [(10, 39, .agg #[.int .i64 0, .slice none 0 0, .slice none 0 0, .int .i64 0, .slice none 0 0, .int .i64 0])]) [0, 1, 0, 0, 0, 31, 63, 127, 127, 127, 0, 1279, 3583, 8191] [0, 2, 3, 4, 1, 5, 6, 7, 8, 9, 10] [11, 12, 13] (by kernel_rfl) (by kernel_rfl) (fun i T z hi hk => by simp only [List.mem_cons, List.not_mem_nil, or_false] at hi; rcases hi with rfl | rfl | rfl | rfl | rfl | rfl | rfl | rfl | rfl | rfl | rfl <;> simp [kdOf] at hk <;> (obtain ⟨rfl, rfl⟩ := hk; first | (show Option.bind _ _ = some _; kernel_rfl) | (refine ⟨_, rfl, fun _ _ => ?_⟩; go_simp))) ?_
        intro Wx hWx
        have e0 := (hWx).keeps.cell id e0; have e1 := (hWx).keeps.cell id e1; have e2 := (hWx).keeps.cell id e2; have e3 := (hWx).keeps.cell id e3; have e4 := (hWx).keeps.cell id e4; have f0 := (hWx).keeps.cell id f0; have f1 := (hWx).keeps.cell id f1; have f2 := (hWx).keeps.cell id f2; have f3 := (hWx).keeps.cell id f3; have f4 := (hWx).keeps.cell id f4; have f5 := (hWx).keeps.cell id f5
        repeat (first | (refine run_off rfl rfl (by rfl) ?_; (try simp only [Act.put, List.setIfInBounds_toArray, List.set_cons_zero, List.set_cons_succ])) | (refine run_chain_off rfl rfl (by rfl) (K0_mono _) ?_; (try simp only [Act.put, List.setIfInBounds_toArray, List.set_cons_zero, List.set_cons_succ])) | ((refine run_want rfl rfl (by rfl) ⟨?_, fun W hW => ?_, ?_⟩; rotate_left; (· (have d0 := hW.keeps.cell id e0; have d1 := hW.keeps.cell id e1; have d2 := hW.keeps.cell id e2; have d3 := hW.keeps.cell id e3; have d4 := hW.keeps.cell id e4; have d5 := hW.keeps.cell id f0; have d6 := hW.keeps.cell id f1; have d7 := hW.keeps.cell id f2; have d8 := hW.keeps.cell id f3; have d9 := hW.keeps.cell id f4; have d10 := hW.keeps.cell id f5; go_simp; (try with_reducible rfl)))); (try simp only [Act.put, List.setIfInBounds_toArray, List.set_cons_zero, List.set_cons_succ])))
        clear e0 e1 e2 e3 e4 f0 f1 f2 f3 f4 f5
        refine run_chain rfl rfl (by rfl) (fun Wi hWi K' hK => ?_)
        have HTi := Lib.hid (hWx.trans hWi)
        clear hWx hWi
        go_simp
        refine (House_any _ h _ _ (HH.out.keep (.of_step HTi.out)) (few_valid HV.out.1)).mono ?_
        rintro e wn ⟨vh, rfl, hvh, hSn⟩
        have HVH := Lib.hid (AV.triv hvh)
        have HT := Lib.hid (HTi.out.trans hSn)
        clear HTi hvh
        refine hK _ _ (StepX.of hSn) ?_
        clear hSn hK
        (try simp only [Act.put, List.setIfInBounds_toArray, List.set_cons_zero, List.set_cons_succ])
        repeat (first | (refine run_off rfl rfl (by rfl) ?_; (try simp only [Act.put, List.setIfInBounds_toArray, List.set_cons_zero, List.set_cons_succ])) | (refine run_chain_off rfl rfl (by rfl) (K0_mono _) ?_; (try simp only [Act.put, List.setIfInBounds_toArray, List.set_cons_zero, List.set_cons_succ])) | ((refine run_want rfl rfl (by rfl) ⟨?_, fun W hW => ?_, ?_⟩; rotate_left; (· (skip; go_simp; (try with_reducible rfl)))); (try simp only [Act.put, List.setIfInBounds_toArray, List.set_cons_zero, List.set_cons_succ])))
        refine run_chain rfl rfl (by rfl) (fun Wi hWi K' hK => ?_)
        have HTi := Lib.hid (HT.out.trans hWi)
        have HVHi := Lib.hid (HVH.out.keep (.of_step hWi))
        clear hWi HT HVH
        go_simp
        refine (Lose_any _ h a _ _ s dd _ HVHi.out (HAA.out.keep (.of_step HTi.out))).mono ?_
        rintro e wn2 ⟨v6, vl, rfl, hv6, hvl, hSn⟩
        rw [(lose_code HV.out.1 HBK.out).1] at hv6 ⊢
        rw [(lose_code HV.out.1 HBK.out).2] at hvl
        obtain ⟨X, hX⟩ : ∃ P, P = actR (bookOf (loseD h a s dd)) := ⟨_, rfl⟩
        obtain ⟨M, hM⟩ : ∃ P, P = restOf [] (loseD h a s dd) := ⟨_, rfl⟩
        rw [← hX] at hv6 ⊢
        rw [← hM] at hvl
        have HX := Lib.hid hX
        have HM2 := Lib.hid hM
        obtain ⟨pm, km, rfl⟩ := hvl.form
        have HVL := Lib.hid hvl
        clear hX hM hvl
        have HT := Lib.hid (HTi.out.trans hSn)
        clear HVHi HTi
        obtain ⟨x1, x2, x4, rfl, t1, t2, t4⟩ := hv6.book
        obtain ⟨raX, naX, rfl⟩ := t1.form
        obtain ⟨rbX, nbX, rfl⟩ := t2.form
        obtain ⟨rcX, ncX, rfl⟩ := t4.form
        have HAX := Lib.hid hv6
        clear t1 t2 t4 hv6
        refine hK _ _ (StepX.of hSn) ?_
        clear hSn hK
        (try simp only [Act.put, List.setIfInBounds_toArray, List.set_cons_zero, List.set_cons_succ])
        repeat (first | (refine run_off rfl rfl (by rfl) ?_; (try simp only [Act.put, List.setIfInBounds_toArray, List.set_cons_zero, List.set_cons_succ])) | (refine run_chain_off rfl rfl (by rfl) (K0_mono _) ?_; (try simp only [Act.put, List.setIfInBounds_toArray, List.set_cons_zero, List.set_cons_succ])) | ((refine run_want rfl rfl (by rfl) ⟨?_, fun W hW => ?_, ?_⟩; rotate_left; (· (skip; go_simp; (try with_reducible rfl)))); (try simp only [Act.put, List.setIfInBounds_toArray, List.set_cons_zero, List.set_cons_succ])))
        refine run_alloc rfl rfl (fun W5 gaX hW5 hg hgb hgN => ?_)
        have hgoX : ∀ j, j < wn2.heap.size → j = gaX → j < Wi.heap.size := fun j hj hs => by omega
        (try simp only [Act.put, List.setIfInBounds_toArray, List.set_cons_zero, List.set_cons_succ])
        repeat (first | (refine run_off rfl rfl (by rfl) ?_; (try simp only [Act.put, List.setIfInBounds_toArray, List.set_cons_zero, List.set_cons_succ])) | (refine run_chain_off rfl rfl (by rfl) (K0_mono _) ?_; (try simp only [Act.put, List.setIfInBounds_toArray, List.set_cons_zero, List.set_cons_succ])) | ((refine run_want rfl rfl (by rfl) ⟨?_, fun W hW => ?_, ?_⟩; rotate_left; (· (skip; go_simp; (try with_reducible rfl)))); (try simp only [Act.put, List.setIfInBounds_toArray, List.set_cons_zero, List.set_cons_succ])))
        refine run_end (L := [_, _, _]) rfl (fun W6 hW6 => ?_)
        have hb6 := Bx.step (w := W5) (cs := [_, _, _, _, _, _]) hg hW6
        refine wpl_store (v := .agg #[.int .i64 (X.1).agency, .slice raX (X.1).seats.length naX, .slice rbX (X.1).off.length nbX, .int .i64 (X.1).sent, .slice rcX (X.1).took.length ncX, .int .i64 (X.1).cash]) rfl _ _ _ rfl rfl rfl hb6 (by kernel_rfl) (by simp [Value.cells]) (by simp [Value.cells, Value.oneCell']) [.int .i64 (X.1).agency, .slice raX (X.1).seats.length naX, .slice rbX (X.1).off.length nbX, .int .i64 (X.1).sent, .slice rcX (X.1).took.length ncX, .int .i64 (X.1).cash] rfl (fun wX hb7 hw7 => ?_)
        have hkX : Keeps (fun j => j = gaX) wn2 wX := (Keeps.of_step (hW5.trans hW6)).trans (.wrote hw7 rfl)
        have HTx := Lib.hid (Step.wrote ((HT.out.trans hW5).trans hW6) hw7 hgb)
        replace HAX := Lib.hid (AV.triv (AV.later HAX.out hgoX hkX))
        have HBX := Lib.hid hb7
        clear hW5 hg hgb hgN hW6 hb6 hb7 hw7 HT
        replace HVL := Lib.hid ((SL.later HVL.out hgoX hkX).weak (T := fun _ => False) fun _ _ h => h.elim)
        clear hgoX hkX
        replace HH := Lib.hid (HH.out.keep (.of_step HTx.out)); replace HPR := Lib.hid (HPR.out.keep (.of_step HTx.out)); replace HAA := Lib.hid (HAA.out.keep (.of_step HTx.out)); replace HB := Lib.hid (HB.out.step HTx.out); replace HBA := Lib.hid (HBA.out.step HTx.out); replace HS := Lib.hid (HS.out.trans HTx.out)
        clear HTx
        by_cases z0 : X.2 = 0
        rotate_left
        · have d : (X.2 != 0) = true := by rw [bne_iff_ne]; exact z0
          clear z0
          have HT := Lib.hid (Step.refl wX)
          go_wp2_with fail
          refine (awake_any _).mono ?_
          rintro e wz ⟨rfl, hSz⟩
          go_wp2
          go_ret
          exact ⟨rfl, HS.out.trans (HT.out.trans hSz)⟩
        have d : (X.2 != 0) = false := by rw [z0]; rfl
        have hyes := lose_yes (h := h) (b := a) (s := s) (d := dd) (by rw [← HX.out]; exact z0)
        rw [← HX.out, ← HM2.out] at hyes
        have HLM2 := Lib.hid (lose_money HV.out.1 HBK.out hyes)
        clear z0 hyes HX HM2
        obtain ⟨pm2, km2, bm, om, hme, _, _, hpm, hcm, _⟩ := HVL.out.moves
        injection hme with he1 he2 he3
        clear he2 he3
        subst he1
        have HMM := Lib.hid (And.intro hpm hcm)
        clear hpm hcm
        obtain ⟨pp3, kp3, bp3, op3, hpe, _, _, hpp, hcp, _⟩ := HPR.out.ints
        injection hpe with hpe1 hpe2 hpe3
        clear hpe2 hpe3
        subst hpe1
        have HPP := Lib.hid (And.intro hpp hcp)
        clear hpp hcp
        have hm100 : M.length ≤ 100 := HLM2.out.2.1
        have HMB := Lib.hid (money_bound HV.out.1 HBK.out)
        obtain ⟨wz, hwz⟩ : ∃ W, W = wX := ⟨_, rfl⟩
        subst hwz
        have HT0 := Lib.hid (Step.refl wz)
        go_upto_region 33 with (fail)
        clear d
        go_loopw [32, 33] (fun sv i wr => ∃ k : Nat, k ≤ M.length ∧ i = .int .i64 k ∧ sv = .int .i64 (paidTo h M k) ∧ Step wz wr) (fun _ i _ => M.length - (intOf i).toNat)
        case atStart => exact ⟨0, Nat.zero_le _, rfl, rfl, HT0.out⟩
        case round =>
          obtain ⟨k, hk, rfl, rfl, hT⟩ := hrel
          have HTn := Lib.hid hT
          clear hT
          have hpb := paidTo_bound HV.out.1 HLM2.out.2.2 k hk
          by_cases hlt : k < M.length
          · obtain rfl := HMM.out.1 (by omega)
            obtain ⟨m0, m1, m2⟩ := HMM.out.2 k hlt
            obtain ⟨mv, hmv⟩ : ∃ m, m = M[k] := ⟨_, rfl⟩
            obtain ⟨cl, hcl, hcp, hpr⟩ := HLM2.out.2.2 mv (by rw [hmv]; exact List.getElem_mem _)
            have hpi := price_in HV.out.1 hcp
            have hstep : paidTo h M (k + 1) = paidTo h M k + if mv.shw < 0 then h.prices[cl] else 0 := by
              rw [← hpr, hmv]
              show paidTo h M k + _ = _
              simp [List.getD_eq_getElem?_getD, hlt]
            rw [← hmv] at m0 m1
            obtain ⟨q, hq⟩ : ∃ q, q = h.prices[cl] := ⟨_, rfl⟩
            rw [← hq] at hpi hstep
            have HMQ := Lib.hid (And.intro hcl (And.intro hq hstep))
            obtain ⟨S0, hS0⟩ : ∃ z, z = paidTo h M k := ⟨_, rfl⟩
            rw [← hS0] at hpb hstep ⊢
            have HS0 := Lib.hid hS0
            clear hcl hpr hq hstep hS0 hmv m2
            have HM1 := Lib.hid m1
            have m0 := (HTn.out).keeps.cell id m0; have m1 := (HTn.out).keeps.cell id m1
            have hix : (0 : Int) ≤ (k : Int) ∧ (k : Int) < (M.length : Int) := by omega
            have HB := Lib.hid (HB.out.step HTn.out)
            have HH := Lib.hid (HH.out.keep (.of_step HTn.out))
            have HPRn := Lib.hid (HTn.out)
            go_upto_region 35 with (fail)
            obtain ⟨e0, e1, e2, e3, e4⟩ := cells5 HB.out
            refine wp_region_seqM (fun c d v a w h => by cases d <;> exact h) (kdOf [1, 7] []) [0, 1, 0, 0, 12, 28, 60, 127, 255, 511, 511, 1023, 4095] [0, 2, 3, 4, 5, 6, 1, 7, 8, 9, 10, 11, 12] [] (by kernel_rfl) (by kernel_rfl) (fun i T z hi hk => by simp [kdOf] at hk <;> (try (split at hk <;> cases hk))) ?_
            intro Wx hWx
            have e0 := (hWx).keeps.cell id e0; have e1 := (hWx).keeps.cell id e1; have e2 := (hWx).keeps.cell id e2; have e3 := (hWx).keeps.cell id e3; have e4 := (hWx).keeps.cell id e4; have m0 := (hWx).keeps.cell id m0; have m1 := (hWx).keeps.cell id m1
            repeat (first | (refine run_off rfl rfl (by rfl) ?_; (try simp only [Act.put, List.setIfInBounds_toArray, List.set_cons_zero, List.set_cons_succ])) | (refine run_chain_off rfl rfl (by rfl) (K0_mono _) ?_; (try simp only [Act.put, List.setIfInBounds_toArray, List.set_cons_zero, List.set_cons_succ])) | ((refine run_want rfl rfl (by rfl) ⟨?_, fun W hW => ?_, ?_⟩; rotate_left; (· (have d0 := hW.keeps.cell id e0; have d1 := hW.keeps.cell id e1; have d2 := hW.keeps.cell id e2; have d3 := hW.keeps.cell id e3; have d4 := hW.keeps.cell id e4; have d5 := hW.keeps.cell id m0; have d6 := hW.keeps.cell id m1; go_simp; (try with_reducible rfl)))); (try simp only [Act.put, List.setIfInBounds_toArray, List.set_cons_zero, List.set_cons_succ])))
            clear e0 e1 e2 e3 e4 m0 m1
            refine run_chain rfl rfl (by rfl) (fun Wi hWi K' hK => ?_)
            have HTi := Lib.hid (hWx.trans hWi)
            clear hWx hWi
            go_simp
            refine (House_any _ h _ _ (HH.out.keep (.of_step HTi.out)) (few_valid HV.out.1)).mono ?_
            rintro e wn ⟨vh, rfl, hvh, hSn⟩
            have HVH := Lib.hid (AV.triv hvh)
            have HT := Lib.hid (HTi.out.trans hSn)
            clear HTi hvh
            refine hK _ _ (StepX.of hSn) ?_
            clear hSn hK
            (try simp only [Act.put, List.setIfInBounds_toArray, List.set_cons_zero, List.set_cons_succ])
            repeat (first | (refine run_off rfl rfl (by rfl) ?_; (try simp only [Act.put, List.setIfInBounds_toArray, List.set_cons_zero, List.set_cons_succ])) | (refine run_chain_off rfl rfl (by rfl) (K0_mono _) ?_; (try simp only [Act.put, List.setIfInBounds_toArray, List.set_cons_zero, List.set_cons_succ])) | ((refine run_want rfl rfl (by rfl) ⟨?_, fun W hW => ?_, ?_⟩; rotate_left; (· (skip; go_simp; (try with_reducible rfl)))); (try simp only [Act.put, List.setIfInBounds_toArray, List.set_cons_zero, List.set_cons_succ])))
            refine run_chain rfl rfl (by rfl) (fun Wi hWi K' hK => ?_)
            have HTi := Lib.hid (HT.out.trans hWi)
            have HVHi := Lib.hid (HVH.out.keep (.of_step hWi))
            clear hWi HT HVH
            go_simp
            refine (Class_any _ h mv.seat _ _ HVHi.out).mono ?_
            rintro e wn2 ⟨rfl, hSn⟩
            rw [HMQ.out.1]
            dsimp only
            refine hK _ _ (StepX.of hSn) ?_
            have HT := Lib.hid (HTi.out.trans hSn)
            clear hSn hK HTi HVHi
            (try simp only [Act.put, List.setIfInBounds_toArray, List.set_cons_zero, List.set_cons_succ])
            repeat (first | (refine run_off rfl rfl (by rfl) ?_; (try simp only [Act.put, List.setIfInBounds_toArray, List.set_cons_zero, List.set_cons_succ])) | (refine run_chain_off rfl rfl (by rfl) (K0_mono _) ?_; (try simp only [Act.put, List.setIfInBounds_toArray, List.set_cons_zero, List.set_cons_succ])) | ((refine run_want rfl rfl (by rfl) ⟨?_, fun W hW => ?_, ?_⟩; rotate_left; (· (skip; go_simp; (try with_reducible rfl)))); (try simp only [Act.put, List.setIfInBounds_toArray, List.set_cons_zero, List.set_cons_succ])))
            refine run_end (L := []) rfl (fun W6 hW6 => ?_)
            have hT6 := HT.out.trans hW6
            have HT6 := Lib.hid hT6
            have m1 := (HTn.out.trans HT6.out).keeps.cell id HM1.out
            obtain ⟨e0, e1, e2, e3, e4⟩ := cells5 (HB.out.step HT6.out)
            have d2 : decide ((cl : Int) < 0) = false := decide_eq_false (by omega)
            have d3 : decide ((h.prices.length : Int) ≤ (cl : Int)) = false := decide_eq_false (by omega)
            have d3n : decide (h.prices.length ≤ cl) = false := decide_eq_false (by omega)
            clear hW6 hT6 HT
            by_cases hneg : mv.shw < 0
            · have d5 : decide (mv.shw < 0) = true := decide_eq_true hneg
              have hcl0 : 0 < h.prices.length := by omega
              obtain rfl := HPP.out.1 hcl0
              have gq := (HTn.out.trans HT6.out).keeps.cell id (HPP.out.2 cl hcp)
              rw [← HMQ.out.2.1] at gq
              have hix4 : (0 : Int) ≤ (cl : Int) ∧ (cl : Int) < (h.prices.length : Int) := by omega
              have hw : IntKind.i64.wrap (S0 + q) = S0 + q := by rw [IntKind.wrap_i64]; omega
              have HNX := Lib.hid (show S0 + q = paidTo h M (k + 1) by rw [HMQ.out.2.2, if_pos hneg, HS0.out])
              clear hneg
              go_wp2
              go_roundw
              case rel => exact ⟨k + 1, by omega, by go_num, by rw [← HNX.out], HTn.out.trans HT6.out⟩
              case measure => simp [intOf]; omega
            · have d5 : decide (mv.shw < 0) = false := decide_eq_false hneg
              have HNX := Lib.hid (show S0 = paidTo h M (k + 1) by rw [HMQ.out.2.2, if_neg hneg, HS0.out, Int.add_zero])
              clear hneg
              go_wp2
              go_roundw
              case rel => exact ⟨k + 1, by omega, by go_num, by rw [← HNX.out], HTn.out.trans HT6.out⟩
              case measure => simp [intOf]; omega
          · have hkl : k = M.length := by omega
            obtain ⟨f0, f1, f2, f3, f4, f5⟩ := cells6 (HBA.out.step HTn.out)
            obtain ⟨x0, x1, x2, x3, x4, x5⟩ := cells6 (HBX.out.step HTn.out)
            obtain ⟨S0, hS0⟩ : ∃ z, z = paidTo h M k := ⟨_, rfl⟩
            have hmb := HMB.out
            have hxc : X.1.cash = a.cash - S0 := by rw [hS0, hkl]; exact HLM2.out.1
            rw [← hS0] at hpb ⊢
            have hw : IntKind.i64.wrap (a.cash - S0) = a.cash - S0 := by rw [IntKind.wrap_i64]; omega
            have d5 : (X.1.cash == a.cash - S0) = true := by rw [hxc]; simp
            clear hkl hS0 hmb hxc
            have HT := Lib.hid HTn.out
            go_wp2_with fail
            refine (awake_any _).mono ?_
            rintro e wz ⟨rfl, hSz⟩
            go_wp2
            go_ret
            exact ⟨rfl, HS.out.trans (HT.out.trans hSz)⟩
end Go.Proofs.Ytgpiieogiafdoaa
