/- Walks and plain laws, part j. -/
import Derived.Test.YtgpiieogiafdoaaMd
import Derived.Test.YtgpiieogiafdoaaMe
import Derived.Test.YtgpiieogiafdoaaMf
import Derived.Test.YtgpiieogiafdoaaMi
/- Walks: the law TicketLate: it answers true. -/
namespace Go.Proofs.Ytgpiieogiafdoaa
set_option linter.unusedSimpArgs false
set_option linter.unusedVariables false
open Go.RowKit Go.BT


set_option maxRecDepth 100000 in
set_option maxHeartbeats 8000000 in
theorem TicketLate_any (h : House) (l : List ActT) (g1 g2 g3 : Int) (v u : Value) (w : World) (hv : AV (fun _ => False) w v h) (hu : SL (fun _ => False) w u l) (w1 : (Lit.int .u8 g1).wf = true) (w2 : (Lit.int .u8 g2).wf = true) (w3 : (Lit.int .u8 g3).wf = true) :
    Calls Try.prog 3 #[v, u, .int .u8 g1, .int .u8 g2, .int .u8 g3] w fun e w' => e = .returned (.bool true) ∧ Step w w' := by
  obtain ⟨c0, c1, c2, c3, c4, rfl, h0, h1, h2, h3, h4⟩ := hv.house
  obtain ⟨p0, k0, rfl⟩ := h0.form
  obtain ⟨p1, k1, rfl⟩ := h1.form
  obtain ⟨p2, k2, rfl⟩ := h2.form
  obtain ⟨p3, k3, rfl⟩ := h3.form
  obtain ⟨p4, k4, rfl⟩ := h4.form
  obtain ⟨pu, ku, rfl⟩ := hu.form
  obtain ⟨W0, hW0⟩ : ∃ W0, W0 = w.alloc (.cells #[.slice p0 h.sectors.length k0, .slice p1 h.prices.length k1, .slice p2 h.dates.length k2, .slice p3 h.frm.length k3, .slice p4 h.holds.length k4] 26) := ⟨_, rfl⟩
  have hS : Step w W0 := by subst hW0; exact Step.alloc _ _
  have hb0 : Bx W0 w.heap.size [.slice p0 h.sectors.length k0, .slice p1 h.prices.length k1, .slice p2 h.dates.length k2, .slice p3 h.frm.length k3, .slice p4 h.holds.length k4] 26 := by subst hW0; exact Bx.new _ [_, _, _, _, _] _
  have HH := Lib.hid (hv.keep (.of_step hS))
  have HU := Lib.hid (hu.keep (.of_step hS))
  have HS := Lib.hid hS
  have HB := Lib.hid hb0
  have HW := Lib.hid hW0
  have HG := Lib.hid (And.intro w1 (And.intro w2 w3))
  clear hv hu hS hb0 hW0 h0 h1 h2 h3 h4 w1 w2 w3
  go_enter Try.func3, Try.ntmps3
  go_upto_region 1 with (fail)
  rw [← HW.out]
  clear HW
  obtain ⟨e0, e1, e2, e3, e4⟩ := cells5 HB.out
  go_wp2_with fail
  refine (may_any (fun _ => False) h l _ _ _ HH.out HU.out).mono ?_
  rintro e wn ⟨rfl, hSn⟩
  have HT := Lib.hid hSn
  clear hSn e0 e1 e2 e3 e4
  cases qm : mayB h l with
  | false =>
    clear qm
    go_wp2_with fail
    refine (awake_any _).mono ?_
    rintro e wz ⟨rfl, hSz⟩
    go_wp2
    go_ret
    exact ⟨rfl, HS.out.trans (HT.out.trans hSz)⟩
  | true =>
  have HM := Lib.hid qm
  clear qm
  obtain ⟨e0, e1, e2, e3, e4⟩ := cells5 (HB.out.step HT.out)
  go_wp2_with fail
  refine (ran_any (fun _ => False) h l _ _ _ (HH.out.keep (.of_step HT.out)) (HU.out.keep (.of_step HT.out)) HM.out).mono ?_
  rintro e w2 ⟨vw, rfl, hvw, hSn⟩
  obtain ⟨b0, b1, rfl, s0, s1⟩ := hvw.wd
  obtain ⟨q0, r0, rfl⟩ := s0.form
  obtain ⟨q1, r1, rfl⟩ := s1.form
  have HV := Lib.hid (may_parts HM.out)
  have HI := Lib.hid (world_inv HV.out.1 l l.length)
  have HTO := Lib.hid (fun i => (Nat.lt_of_le_of_lt (took_le HV.out.1 l l.length i) (by have := HV.out.2.2; omega) : (bk (worldAt h l l.length) i).took.length < 999))
  have HLE := Lib.hid (msgs_le HV.out.1 l l.length)
  obtain ⟨W, hW⟩ : ∃ W, W = worldAt h l l.length := ⟨_, rfl⟩
  rw [← hW] at s0 s1 HI HTO HLE ⊢
  have HSB := Lib.hid (And.intro s0 s1)
  have HT2 := Lib.hid (HT.out.trans hSn)
  clear HT s0 s1 hvw hSn hW e0 e1 e2 e3 e4
  have HT := HT2
  clear HT2
  obtain ⟨lm, hlm⟩ : ∃ n, n = W.msgs.length := ⟨_, rfl⟩
  rw [← hlm]
  have HLM := Lib.hid hlm
  clear hlm
  go_upto_region 4 with (fail)
  obtain ⟨W3, hW3⟩ : ∃ W3, W3 = w2.alloc (.cells #[.slice q0 W.books.length r0, .slice q1 lm r1] 33) := ⟨_, rfl⟩
  have hb3 : Bx W3 w2.heap.size [.slice q0 W.books.length r0, .slice q1 lm r1] 33 := by subst hW3; exact Bx.new _ [_, _] _
  have hS3 : Step w2 W3 := by subst hW3; exact Step.alloc _ _
  rw [← hW3]
  have HB3 := Lib.hid hb3
  have HSB3 := Lib.hid (And.intro ((HSB.out.1.weak (T := fun _ => False) fun _ _ h => h.elim).keep (.of_step hS3)) ((HSB.out.2.weak (T := fun _ => False) fun _ _ h => h.elim).keep (.of_step hS3)))
  have HT2 := Lib.hid (HT.out.trans hS3)
  clear HT hb3 hS3 hW3 HSB
  have HT := HT2
  clear HT2
  obtain ⟨y0, y1⟩ : W3.cell? ⟨w2.heap.size, 0, none⟩ = some (.slice q0 W.books.length r0) ∧ W3.cell? ⟨w2.heap.size, 1, none⟩ = some (.slice q1 lm r1) := ⟨HB3.out.cell 0, HB3.out.cell 1⟩
  by_cases hz : lm = 0
  · have d : ((lm : Int) == 0) = true := by simp [hz]
    clear hz
    go_wp2_with fail
    refine (awake_any _).mono ?_
    rintro e wz ⟨rfl, hSz⟩
    go_wp2
    go_ret
    exact ⟨rfl, HS.out.trans (HT.out.trans hSz)⟩
  have d : ((lm : Int) == 0) = false := by simp [hz]
  go_upto_region 8 with (fail)
  clear d
  have hnb : 0 < W.books.length := by have := HI.out.ok.len; have := bounds_valid HV.out.1; omega
  obtain ⟨i, hgi, hib, hgw, _, _⟩ := u8_mod HG.out.1 hnb
  obtain ⟨pQ, cQ, bb, bo, he, _, _, hpb, hcb, _⟩ := HSB3.out.1.books
  injection he with he1 he2 he3
  clear he2 he3
  have hpb := hpb hnb
  rw [← he1] at hpb
  subst hpb
  obtain ⟨b1, b2, b4, ⟨f0, f1, f2, f3, f4, f5⟩, s1, s2, s4⟩ := hcb i hib
  have hba : W.books[i] = bk W i := (bk_at hib).symm
  rw [hba] at f0 f3 f5 s1 s2 s4
  obtain ⟨a, ha⟩ : ∃ a, a = bk W i := ⟨_, rfl⟩
  rw [← ha] at f0 f3 f5 s1 s2 s4
  have HA := Lib.hid (And.intro ha hib)
  have HS3 := Lib.hid (And.intro s1 (And.intro s2 s4))
  have hrg : (0 : Int) ≤ (i : Int) ∧ (i : Int) < (W.books.length : Int) := by omega
  have hdv : ((W.books.length : Int) == 0) = false := by rw [beq_eq_false_iff_ne]; omega
  have hwi : IntKind.i64.wrap (i : Int) = (i : Int) := by have := HI.out.ok.len; have := bounds_valid HV.out.1; rw [IntKind.wrap_i64]; omega
  have hgt : IntKind.i64.wrap (g1.tmod (W.books.length : Int)) = (i : Int) := by rw [hgi]; exact hwi
  have hne : ¬ (W.books.length : Int) = 0 := by omega
  have hne2 : ¬ W.books.length = 0 := by omega
  clear he1 hcb hba ha s1 s2 s4
  obtain ⟨r4, l4, hf4⟩ := HS3.out.2.2.form
  obtain ⟨r2, l2, hf2⟩ := HS3.out.2.1.form
  obtain ⟨r1', l1, hf1⟩ := HS3.out.1.form
  subst hf4 hf2 hf1
  have HT3 := HT
  refine wp_region_seqM (fun c d v a w h => by cases d <;> exact h) (kdOf [] [(10, 39, .agg #[.int .i64 0, .slice none 0 0, .slice none 0 0, .int .i64 0, .slice none 0 0, .int .i64 0])]) [0, 1, 0, 4, 0, 16, 48, 124, 255, 511, 0, 2047] [0, 1, 2, 3, 4, 5, 6, 7, 8, 9, 10] [11] (by kernel_rfl) (by kernel_rfl) (fun i T z hi hk => by simp only [List.mem_cons, List.not_mem_nil, or_false] at hi; rcases hi with rfl | rfl | rfl | rfl | rfl | rfl | rfl | rfl | rfl | rfl | rfl <;> simp [kdOf] at hk <;> (obtain ⟨rfl, rfl⟩ := hk; first | (show Option.bind _ _ = some _; kernel_rfl) | (refine ⟨_, rfl, fun _ _ => ?_⟩; go_simp))) ?_
  intro Wx hWx
  have y0 := hWx.keeps.cell id y0
  have f0 := hWx.keeps.cell id f0
  have f1 := hWx.keeps.cell id f1
  have f2 := hWx.keeps.cell id f2
  have f3 := hWx.keeps.cell id f3
  have f4 := hWx.keeps.cell id f4
  have f5 := hWx.keeps.cell id f5
  repeat (first | (refine run_off rfl rfl (by rfl) ?_; (try simp only [Act.put, List.setIfInBounds_toArray, List.set_cons_zero, List.set_cons_succ])) | (refine run_chain_off rfl rfl (by rfl) (K0_mono _) ?_; (try simp only [Act.put, List.setIfInBounds_toArray, List.set_cons_zero, List.set_cons_succ])) | ((refine run_want rfl rfl (by rfl) ⟨?_, fun W hW => ?_, ?_⟩; rotate_left; (· (have d0 := hW.keeps.cell id y0; have d1 := hW.keeps.cell id f0; have d2 := hW.keeps.cell id f1; have d3 := hW.keeps.cell id f2; have d4 := hW.keeps.cell id f3; have d5 := hW.keeps.cell id f4; have d6 := hW.keeps.cell id f5; go_simp; (try with_reducible rfl)))); (try simp only [Act.put, List.setIfInBounds_toArray, List.set_cons_zero, List.set_cons_succ])))
  clear y0 f0 f1 f2 f3 f4 f5 hrg hdv hwi hgi hgw hgt hne hne2
  refine run_alloc rfl rfl (fun W5 ga hW5 hg hgb hgN => ?_)
  (try simp only [Act.put, List.setIfInBounds_toArray, List.set_cons_zero, List.set_cons_succ])
  repeat (first | (refine run_off rfl rfl (by rfl) ?_; (try simp only [Act.put, List.setIfInBounds_toArray, List.set_cons_zero, List.set_cons_succ])) | (refine run_chain_off rfl rfl (by rfl) (K0_mono _) ?_; (try simp only [Act.put, List.setIfInBounds_toArray, List.set_cons_zero, List.set_cons_succ])) | ((refine run_want rfl rfl (by rfl) ⟨?_, fun W hW => ?_, ?_⟩; rotate_left; (· (skip; go_simp; (try with_reducible rfl)))); (try simp only [Act.put, List.setIfInBounds_toArray, List.set_cons_zero, List.set_cons_succ])))
  refine run_end (L := [_]) rfl (fun W6 hW6 => ?_)
  have hb6 := Bx.step (w := W5) (cs := [_, _, _, _, _, _]) hg hW6
  refine wpl_store (v := .agg #[.int .i64 a.agency, .slice r1' a.seats.length l1, .slice r2 a.off.length l2, .int .i64 a.sent, .slice r4 a.took.length l4, .int .i64 a.cash]) rfl _ _ _ rfl rfl rfl hb6 (by kernel_rfl) (by simp [Value.cells]) (by simp [Value.cells, Value.oneCell']) [.int .i64 a.agency, .slice r1' a.seats.length l1, .slice r2 a.off.length l2, .int .i64 a.sent, .slice r4 a.took.length l4, .int .i64 a.cash] rfl (fun w8 hb8 hw8 => ?_)
  have HBA := Lib.hid hb8
  have HTw := Lib.hid (Step.wrote ((hWx.trans hW5).trans hW6) hw8 hgb)
  clear hWx hW5 hg hgb hgN hW6 hb6 hb8 hw8
  have HT8 := Lib.hid (HT.out.trans HTw.out)
  have HSB8 := Lib.hid (And.intro (HSB3.out.1.keep (.of_step HTw.out)) (HSB3.out.2.keep (.of_step HTw.out)))
  have HS8 := Lib.hid (And.intro (HS3.out.1.keep (.of_step HTw.out)) (And.intro (HS3.out.2.1.keep (.of_step HTw.out)) (HS3.out.2.2.keep (.of_step HTw.out))))
  have HB8 := Lib.hid (HB3.out.step HTw.out)
  clear HT HT3 HTw HSB3 HS3 HB3
  have HT := HT8
  clear HT8
  obtain ⟨k, hk1, hk2, hk3, _, _⟩ := u8_mod HG.out.2.1 (show 0 < lm by omega)
  obtain ⟨q, hq1, hq2, hq3, _, _⟩ := u8_mod HG.out.2.2 (show 0 < lm by omega)
  obtain ⟨pM, cM, mb, mo, he, _, _, hpm, hcm, _⟩ := HSB8.out.2.mess
  rw [← HLM.out] at he hpm
  injection he with he1 he2 he3
  clear he2 he3
  have hpm := hpm (by omega)
  rw [← he1] at hpm
  subst hpm
  obtain ⟨x4, ⟨m0, m1, m2, m3, m4⟩, hx4⟩ := hcm k (by rw [← HLM.out]; exact hk2)
  obtain ⟨y4, ⟨n0, n1, n2, n3, n4⟩, hy4⟩ := hcm q (by rw [← HLM.out]; exact hq2)
  have hkm : k < W.msgs.length := by rw [← HLM.out]; exact hk2
  have hqm : q < W.msgs.length := by rw [← HLM.out]; exact hq2
  have em : W.msgs[k] = ms W k := (ms_at hkm).symm
  have en : W.msgs[q] = ms W q := (ms_at hqm).symm
  rw [em] at m0 m1 m2 m3 hx4
  rw [en] at n0 n1 n2 n3 hy4
  obtain ⟨m, hm⟩ : ∃ m, m = ms W k := ⟨_, rfl⟩
  obtain ⟨n, hn⟩ : ∃ n, n = ms W q := ⟨_, rfl⟩
  rw [← hm] at m0 m1 m2 m3 hx4
  rw [← hn] at n0 n1 n2 n3 hy4
  obtain ⟨px, kx, rfl⟩ := hx4.form
  obtain ⟨py, ky, rfl⟩ := hy4.form
  have HMN := Lib.hid (And.intro hm (And.intro hn (And.intro hkm hqm)))
  have HXY := Lib.hid (And.intro hx4 hy4)
  have z1 := HB8.out.cell 1
  simp only [List.getElem?_cons_zero, List.getElem?_cons_succ] at z1
  have hwk : IntKind.i64.wrap (k : Int) = (k : Int) := by have := HLE.out; have := HLM.out; have := HV.out.2.2; rw [IntKind.wrap_i64]; omega
  have hwq : IntKind.i64.wrap (q : Int) = (q : Int) := by have := HLE.out; have := HLM.out; have := HV.out.2.2; rw [IntKind.wrap_i64]; omega
  have hkt : IntKind.i64.wrap (g2.tmod (lm : Int)) = (k : Int) := by rw [hk1]; exact hwk
  have hqt : IntKind.i64.wrap (g3.tmod (lm : Int)) = (q : Int) := by rw [hq1]; exact hwq
  have hne : ¬ (lm : Int) = 0 := by omega
  have hrk : (0 : Int) ≤ (k : Int) ∧ (k : Int) < (lm : Int) := by omega
  have hrq : (0 : Int) ≤ (q : Int) ∧ (q : Int) < (lm : Int) := by omega
  have hdv : ((lm : Int) == 0) = false := by rw [beq_eq_false_iff_ne]; omega
  clear he1 hcm hm hn em en hkm hqm hx4 hy4
  go_upto_region 9 with (fail)
  have hlb := World.block_lt_of_cell? w8 _ m0
  have hlc := World.block_lt_of_cell? w8 _ z1
  dsimp only at hlb hlc
  have hnb : ¬ w8.heap.size ≤ w2.heap.size := Nat.not_le.2 hlc
  have hnm : ¬ w8.heap.size ≤ mb := Nat.not_le.2 hlb
  clear hlb hlc
  refine Late.wp_region_late (fun j => w8.heap.size ≤ j) (fun c d v a w h => by cases d <;> exact h) (kdOf [] [(20, 41, .agg #[.int .i64 0, .int .i64 0, .int .i64 0, .int .i64 0, .slice none 0 0]), (21, 41, .agg #[.int .i64 0, .int .i64 0, .int .i64 0, .int .i64 0, .slice none 0 0])]) [0, 1, 0, 4, 0, 16, 48, 124, 255, 511, 0, 1024, 0, 4096, 0, 16384, 49152, 126976, 261120, 523264, 0, 0, 3146751, 8388607] [0, 1, 2, 3, 4, 5, 6, 7, 8, 9, 10, 11, 12, 13, 14, 15, 16, 17, 18, 19, 20, 21] 22 [23] (by kernel_rfl) (by kernel_rfl) (fun i T z hi hk => by simp only [List.mem_cons, List.not_mem_nil, or_false] at hi; rcases hi with rfl | rfl | rfl | rfl | rfl | rfl | rfl | rfl | rfl | rfl | rfl | rfl | rfl | rfl | rfl | rfl | rfl | rfl | rfl | rfl | rfl | rfl <;> simp [kdOf] at hk <;> (obtain ⟨rfl, rfl⟩ := hk; first | (show Option.bind _ _ = some _; kernel_rfl) | (refine ⟨_, rfl, fun _ _ => ?_⟩; go_simp))) ?_
  intro Wx hWx
  have z1 := (hWx).keeps.cell id z1; have m0 := (hWx).keeps.cell id m0; have m1 := (hWx).keeps.cell id m1; have m2 := (hWx).keeps.cell id m2; have m3 := (hWx).keeps.cell id m3; have m4 := (hWx).keeps.cell id m4; have n0 := (hWx).keeps.cell id n0; have n1 := (hWx).keeps.cell id n1; have n2 := (hWx).keeps.cell id n2; have n3 := (hWx).keeps.cell id n3; have n4 := (hWx).keeps.cell id n4
  repeat (first | (refine Late.run_off rfl rfl (by rfl) ?_; (try simp only [Act.put, List.setIfInBounds_toArray, List.set_cons_zero, List.set_cons_succ])) | ((refine Late.run_want rfl rfl (by rfl) ⟨?_, fun W hW => ?_, ?_⟩; rotate_left; (· (have d0 := hW.keeps.cell hnb z1; have d1 := hW.keeps.cell hnm m0; have d2 := hW.keeps.cell hnm m1; have d3 := hW.keeps.cell hnm m2; have d4 := hW.keeps.cell hnm m3; have d5 := hW.keeps.cell hnm m4; have d6 := hW.keeps.cell hnm n0; have d7 := hW.keeps.cell hnm n1; have d8 := hW.keeps.cell hnm n2; have d9 := hW.keeps.cell hnm n3; have d10 := hW.keeps.cell hnm n4; go_simp; (try with_reducible rfl)))); (try simp only [Act.put, List.setIfInBounds_toArray, List.set_cons_zero, List.set_cons_succ])))
  clear z1 m0 m1 m2 m3 m4 n0 n1 n2 n3 n4 hnb hnm
  refine Late.run_alloc rfl rfl (fun W5 gx hW5 hg hgb hgN => ?_)
  (try simp only [Act.put, List.setIfInBounds_toArray, List.set_cons_zero, List.set_cons_succ])
  refine Late.run_alloc rfl rfl (fun W5b gy hW5b hg2 hgb2 hgN2 => ?_)
  have hxy : gy ≠ gx := by
    intro e
    simp [e] at hgN2
  (try simp only [Act.put, List.setIfInBounds_toArray, List.set_cons_zero, List.set_cons_succ])
  repeat (first | (refine Late.run_off rfl rfl (by rfl) ?_; (try simp only [Act.put, List.setIfInBounds_toArray, List.set_cons_zero, List.set_cons_succ])) | ((refine Late.run_want rfl rfl (by rfl) ⟨?_, fun W hW => ?_, ?_⟩; rotate_left; (· (skip; go_simp; (try with_reducible rfl)))); (try simp only [Act.put, List.setIfInBounds_toArray, List.set_cons_zero, List.set_cons_succ])))
  refine Late.run_end rfl rfl (L := [_]) rfl (fun W6 hW6 K6 hK6 => ?_)
  have hb6 := Bx.step (w := W5b) (Bx.step (w := W5) (cs := [_, _, _, _, _]) hg hW5b) hW6
  have hc6 := Bx.step (w := W5b) (cs := [_, _, _, _, _]) hg2 hW6
  refine wp_store_L (v := .agg #[.int .i64 m.frm, .int .i64 m.dst, .int .i64 m.number, .int .i64 m.shw, .slice px m.seats.length kx]) _ _ _ rfl rfl rfl hb6 (by kernel_rfl) (by simp [Value.cells]) (by simp [Value.cells, Value.oneCell']) [.int .i64 m.frm, .int .i64 m.dst, .int .i64 m.number, .int .i64 m.shw, .slice px m.seats.length kx] rfl (fun w9 hb9 hw9 => ?_)
  refine hK6 _ _ (StepX.grown hw9.grown (fun j hj _ => by injection hj with e; exact e ▸ hgb)) ?_
  have hc9 := hc6.keep (Keeps.wrote (S := fun j => j = gx) hw9 rfl) hxy
  clear hK6
  (try simp only [Act.put, List.setIfInBounds_toArray, List.set_cons_zero, List.set_cons_succ])
  refine wpl_store (v := .agg #[.int .i64 n.frm, .int .i64 n.dst, .int .i64 n.number, .int .i64 n.shw, .slice py n.seats.length ky]) rfl _ _ _ rfl rfl rfl hc9 (by kernel_rfl) (by simp [Value.cells]) (by simp [Value.cells, Value.oneCell']) [.int .i64 n.frm, .int .i64 n.dst, .int .i64 n.number, .int .i64 n.shw, .slice py n.seats.length ky] rfl (fun wc hby hw10 => ?_)
  have hbx := hb9.keep (Keeps.wrote (S := fun j => j = gy) hw10 rfl) (Ne.symm hxy)
  have hS9 : Step w8 wc := Step.wrote (Step.wrote (((hWx.trans hW5).trans hW5b).trans hW6) hw9 hgb) hw10 hgb2
  clear hWx hW5 hg hgb hgN hW5b hg2 hgb2 hgN2 hxy hW6 hb6 hc6 hb9 hw9 hc9 hw10
  have hT9 := HT.out.trans hS9
  have HAA := Lib.hid (show AV (fun _ => False) wc _ a from ⟨_, rfl, _, _, _, rfl, HS8.out.1.keep (.of_step hS9), HS8.out.2.1.keep (.of_step hS9), HS8.out.2.2.keep (.of_step hS9)⟩)
  have HAM := Lib.hid (show AV (fun _ => False) wc _ m from ⟨_, rfl, _, rfl, HXY.out.1.keep (.of_step hS9)⟩)
  have HAN := Lib.hid (show AV (fun _ => False) wc _ n from ⟨_, rfl, _, rfl, HXY.out.2.keep (.of_step hS9)⟩)
  have HBM := Lib.hid hbx
  have HBN := Lib.hid hby
  replace HBA := Lib.hid (HBA.out.step hS9)
  replace HH := Lib.hid (HH.out.keep (.of_step hT9)); replace HB := Lib.hid (HB.out.step hT9); replace HS := Lib.hid (HS.out.trans hT9)
  clear HT hT9 hS9 hbx hby HS8 HXY HU HB8 HSB8 hkt hqt hne hrk hrq hdv hwk hwq hk1 hq1
  go_upto_region 10 with (fail)
  obtain ⟨f0, f1, f2, f3, f4, f5⟩ := cells6 HBA.out
  obtain ⟨m0, m1, m2, m3, m4⟩ := cells5 HBM.out
  obtain ⟨e0, e1, e2, e3, e4⟩ := cells5 HB.out
  refine wp_region_seqM (fun c d v a w h => by cases d <;> exact h) (kdOf [1, 4] [(8, 39, .agg #[.int .i64 0, .slice none 0 0, .slice none 0 0, .int .i64 0, .slice none 0 0, .int .i64 0])]) [0, 1, 0, 0, 15, 31, 63, 63, 0, 383, 1023] [0, 2, 3, 1, 4, 5, 6, 7, 8] [9, 10] (by kernel_rfl) (by kernel_rfl) (fun i T z hi hk => by simp only [List.mem_cons, List.not_mem_nil, or_false] at hi; rcases hi with rfl | rfl | rfl | rfl | rfl | rfl | rfl | rfl | rfl <;> simp [kdOf] at hk <;> (obtain ⟨rfl, rfl⟩ := hk; first | (show Option.bind _ _ = some _; kernel_rfl) | (refine ⟨_, rfl, fun _ _ => ?_⟩; go_simp))) ?_
  intro Wx hWx
  have e0 := (hWx).keeps.cell id e0; have e1 := (hWx).keeps.cell id e1; have e2 := (hWx).keeps.cell id e2; have e3 := (hWx).keeps.cell id e3; have e4 := (hWx).keeps.cell id e4; have f0 := (hWx).keeps.cell id f0; have f1 := (hWx).keeps.cell id f1; have f2 := (hWx).keeps.cell id f2; have f3 := (hWx).keeps.cell id f3; have f4 := (hWx).keeps.cell id f4; have f5 := (hWx).keeps.cell id f5; have m0 := (hWx).keeps.cell id m0; have m1 := (hWx).keeps.cell id m1; have m2 := (hWx).keeps.cell id m2; have m3 := (hWx).keeps.cell id m3; have m4 := (hWx).keeps.cell id m4
  repeat (first | (refine run_off rfl rfl (by rfl) ?_; (try simp only [Act.put, List.setIfInBounds_toArray, List.set_cons_zero, List.set_cons_succ])) | (refine run_chain_off rfl rfl (by rfl) (K0_mono _) ?_; (try simp only [Act.put, List.setIfInBounds_toArray, List.set_cons_zero, List.set_cons_succ])) | ((refine run_want rfl rfl (by rfl) ⟨?_, fun W hW => ?_, ?_⟩; rotate_left; (· (have d0 := hW.keeps.cell id e0; have d1 := hW.keeps.cell id e1; have d2 := hW.keeps.cell id e2; have d3 := hW.keeps.cell id e3; have d4 := hW.keeps.cell id e4; have d5 := hW.keeps.cell id f0; have d6 := hW.keeps.cell id f1; have d7 := hW.keeps.cell id f2; have d8 := hW.keeps.cell id f3; have d9 := hW.keeps.cell id f4; have d10 := hW.keeps.cell id f5; have d11 := hW.keeps.cell id m0; have d12 := hW.keeps.cell id m1; have d13 := hW.keeps.cell id m2; have d14 := hW.keeps.cell id m3; have d15 := hW.keeps.cell id m4; go_simp; (try with_reducible rfl)))); (try simp only [Act.put, List.setIfInBounds_toArray, List.set_cons_zero, List.set_cons_succ])))
  clear e0 e1 e2 e3 e4 f0 f1 f2 f3 f4 f5 m0 m1 m2 m3 m4
  refine run_chain rfl rfl (by rfl) (fun Wi hWi K' hK => ?_)
  have HTi := Lib.hid (hWx.trans hWi)
  clear hWx hWi
  go_simp
  refine (House_any _ h _ _ (HH.out.keep (.of_step HTi.out)) (few_valid HV.out.1)).mono ?_
  rintro e wn ⟨vh, rfl, hvh, hSn⟩
  have HVH := Lib.hid (AV.triv hvh)
  have HT := Lib.hid (HTi.out.trans hSn)
  clear HTi hvh
  refine hK _ _ (StepX.of hSn) ?_
  clear hSn hK
  (try simp only [Act.put, List.setIfInBounds_toArray, List.set_cons_zero, List.set_cons_succ])
  repeat (first | (refine run_off rfl rfl (by rfl) ?_; (try simp only [Act.put, List.setIfInBounds_toArray, List.set_cons_zero, List.set_cons_succ])) | (refine run_chain_off rfl rfl (by rfl) (K0_mono _) ?_; (try simp only [Act.put, List.setIfInBounds_toArray, List.set_cons_zero, List.set_cons_succ])) | ((refine run_want rfl rfl (by rfl) ⟨?_, fun W hW => ?_, ?_⟩; rotate_left; (· (skip; go_simp; (try with_reducible rfl)))); (try simp only [Act.put, List.setIfInBounds_toArray, List.set_cons_zero, List.set_cons_succ])))
  refine run_chain rfl rfl (by rfl) (fun Wi hWi K' hK => ?_)
  have HTi := Lib.hid (HT.out.trans hWi)
  have HVHi := Lib.hid (HVH.out.keep (.of_step hWi))
  clear hWi HT HVH
  go_simp
  refine (Take_any _ _ h a _ _ _ m _ HVHi.out (HAA.out.keep (.of_step HTi.out)) (HAM.out.keep (.of_step HTi.out))).mono ?_
  rintro e wn2 ⟨v6, rfl, hv6, hSn⟩
  rw [show actR (doneR h a (takeD h a m)) = tkR h a m from rfl] at hv6 ⊢
  obtain ⟨P, hP⟩ : ∃ z9, z9 = tkR h a m := ⟨_, rfl⟩
  rw [← hP] at hv6 ⊢
  have HP := Lib.hid hP
  clear hP
  have HT := Lib.hid (HTi.out.trans hSn)
  clear HVHi HTi
  obtain ⟨x1, x2, x4, rfl, t1, t2, t4⟩ := hv6.book
  obtain ⟨raP, naP, rfl⟩ := t1.form
  obtain ⟨rbP, nbP, rfl⟩ := t2.form
  obtain ⟨rcP, ncP, rfl⟩ := t4.form
  have HAP := Lib.hid hv6
  clear t1 t2 t4 hv6
  refine hK _ _ (StepX.of hSn) ?_
  clear hSn hK
  (try simp only [Act.put, List.setIfInBounds_toArray, List.set_cons_zero, List.set_cons_succ])
  repeat (first | (refine run_off rfl rfl (by rfl) ?_; (try simp only [Act.put, List.setIfInBounds_toArray, List.set_cons_zero, List.set_cons_succ])) | (refine run_chain_off rfl rfl (by rfl) (K0_mono _) ?_; (try simp only [Act.put, List.setIfInBounds_toArray, List.set_cons_zero, List.set_cons_succ])) | ((refine run_want rfl rfl (by rfl) ⟨?_, fun W hW => ?_, ?_⟩; rotate_left; (· (skip; go_simp; (try with_reducible rfl)))); (try simp only [Act.put, List.setIfInBounds_toArray, List.set_cons_zero, List.set_cons_succ])))
  refine run_alloc rfl rfl (fun W5 gaP hW5 hg hgb hgN => ?_)
  have hgoP : ∀ j, j < wn2.heap.size → j = gaP → j < Wi.heap.size := fun j hj hs => by omega
  (try simp only [Act.put, List.setIfInBounds_toArray, List.set_cons_zero, List.set_cons_succ])
  repeat (first | (refine run_off rfl rfl (by rfl) ?_; (try simp only [Act.put, List.setIfInBounds_toArray, List.set_cons_zero, List.set_cons_succ])) | (refine run_chain_off rfl rfl (by rfl) (K0_mono _) ?_; (try simp only [Act.put, List.setIfInBounds_toArray, List.set_cons_zero, List.set_cons_succ])) | ((refine run_want rfl rfl (by rfl) ⟨?_, fun W hW => ?_, ?_⟩; rotate_left; (· (skip; go_simp; (try with_reducible rfl)))); (try simp only [Act.put, List.setIfInBounds_toArray, List.set_cons_zero, List.set_cons_succ])))
  refine run_end (L := [_, _]) rfl (fun W6 hW6 => ?_)
  have hb6 := Bx.step (w := W5) (cs := [_, _, _, _, _, _]) hg hW6
  refine wpl_store (v := .agg #[.int .i64 ((P).1).agency, .slice raP ((P).1).seats.length naP, .slice rbP ((P).1).off.length nbP, .int .i64 ((P).1).sent, .slice rcP ((P).1).took.length ncP, .int .i64 ((P).1).cash]) rfl _ _ _ rfl rfl rfl hb6 (by kernel_rfl) (by simp [Value.cells]) (by simp [Value.cells, Value.oneCell']) [.int .i64 ((P).1).agency, .slice raP ((P).1).seats.length naP, .slice rbP ((P).1).off.length nbP, .int .i64 ((P).1).sent, .slice rcP ((P).1).took.length ncP, .int .i64 ((P).1).cash] rfl (fun wP hb7 hw7 => ?_)
  have hkP : Keeps (fun j => j = gaP) wn2 wP := (Keeps.of_step (hW5.trans hW6)).trans (.wrote hw7 rfl)
  have HTx := Lib.hid (Step.wrote ((HT.out.trans hW5).trans hW6) hw7 hgb)
  replace HAP := Lib.hid (AV.triv (AV.later HAP.out hgoP hkP))
  have HBP := Lib.hid hb7
  clear hW5 hg hgb hgN hW6 hb6 hb7 hw7 HT
  replace HH := Lib.hid (HH.out.keep (.of_step HTx.out)); replace HAA := Lib.hid (HAA.out.keep (.of_step HTx.out)); replace HAM := Lib.hid (HAM.out.keep (.of_step HTx.out)); replace HAN := Lib.hid (HAN.out.keep (.of_step HTx.out)); replace HB := Lib.hid (HB.out.step HTx.out); replace HBA := Lib.hid (HBA.out.step HTx.out); replace HBM := Lib.hid (HBM.out.step HTx.out); replace HBN := Lib.hid (HBN.out.step HTx.out); replace HS := Lib.hid (HS.out.trans HTx.out)
  clear HTx hgoP hkP
  go_upto_region 11 with (fail)
  obtain ⟨f0, f1, f2, f3, f4, f5⟩ := cells6 HBA.out
  obtain ⟨m0, m1, m2, m3, m4⟩ := cells5 HBN.out
  obtain ⟨e0, e1, e2, e3, e4⟩ := cells5 HB.out
  refine wp_region_seqM (fun c d v a w h => by cases d <;> exact h) (kdOf [1, 4] [(8, 39, .agg #[.int .i64 0, .slice none 0 0, .slice none 0 0, .int .i64 0, .slice none 0 0, .int .i64 0])]) [0, 1, 0, 0, 15, 31, 63, 63, 0, 383, 1023] [0, 2, 3, 1, 4, 5, 6, 7, 8] [9, 10] (by kernel_rfl) (by kernel_rfl) (fun i T z hi hk => by simp only [List.mem_cons, List.not_mem_nil, or_false] at hi; rcases hi with rfl | rfl | rfl | rfl | rfl | rfl | rfl | rfl | rfl <;> simp [kdOf] at hk <;> (obtain ⟨rfl, rfl⟩ := hk; first | (show Option.bind _ _ = some _; kernel_rfl) | (refine ⟨_, rfl, fun _ _ => ?_⟩; go_simp))) ?_
  intro Wx hWx
  have e0 := (hWx).keeps.cell id e0; have e1 := (hWx).keeps.cell id e1; have e2 := (hWx).keeps.cell id e2; have e3 := (hWx).keeps.cell id e3; have e4 := (hWx).keeps.cell id e4; have f0 := (hWx).keeps.cell id f0; have f1 := (hWx).keeps.cell id f1; have f2 := (hWx).keeps.cell id f2; have f3 := (hWx).keeps.cell id f3; have f4 := (hWx).keeps.cell id f4; have f5 := (hWx).keeps.cell id f5; have m0 := (hWx).keeps.cell id m0; have m1 := (hWx).keeps.cell id m1; have m2 := (hWx).keeps.cell id m2; have m3 := (hWx).keeps.cell id m3; have m4 := (hWx).keeps.cell id m4
  repeat (first | (refine run_off rfl rfl (by rfl) ?_; (try simp only [Act.put, List.setIfInBounds_toArray, List.set_cons_zero, List.set_cons_succ])) | (refine run_chain_off rfl rfl (by rfl) (K0_mono _) ?_; (try simp only [Act.put, List.setIfInBounds_toArray, List.set_cons_zero, List.set_cons_succ])) | ((refine run_want rfl rfl (by rfl) ⟨?_, fun W hW => ?_, ?_⟩; rotate_left; (· (have d0 := hW.keeps.cell id e0; have d1 := hW.keeps.cell id e1; have d2 := hW.keeps.cell id e2; have d3 := hW.keeps.cell id e3; have d4 := hW.keeps.cell id e4; have d5 := hW.keeps.cell id f0; have d6 := hW.keeps.cell id f1; have d7 := hW.keeps.cell id f2; have d8 := hW.keeps.cell id f3; have d9 := hW.keeps.cell id f4; have d10 := hW.keeps.cell id f5; have d11 := hW.keeps.cell id m0; have d12 := hW.keeps.cell id m1; have d13 := hW.keeps.cell id m2; have d14 := hW.keeps.cell id m3; have d15 := hW.keeps.cell id m4; go_simp; (try with_reducible rfl)))); (try simp only [Act.put, List.setIfInBounds_toArray, List.set_cons_zero, List.set_cons_succ])))
  clear e0 e1 e2 e3 e4 f0 f1 f2 f3 f4 f5 m0 m1 m2 m3 m4
  refine run_chain rfl rfl (by rfl) (fun Wi hWi K' hK => ?_)
  have HTi := Lib.hid (hWx.trans hWi)
  clear hWx hWi
  go_simp
  refine (House_any _ h _ _ (HH.out.keep (.of_step HTi.out)) (few_valid HV.out.1)).mono ?_
  rintro e wn ⟨vh, rfl, hvh, hSn⟩
  have HVH := Lib.hid (AV.triv hvh)
  have HT := Lib.hid (HTi.out.trans hSn)
  clear HTi hvh
  refine hK _ _ (StepX.of hSn) ?_
  clear hSn hK
  (try simp only [Act.put, List.setIfInBounds_toArray, List.set_cons_zero, List.set_cons_succ])
  repeat (first | (refine run_off rfl rfl (by rfl) ?_; (try simp only [Act.put, List.setIfInBounds_toArray, List.set_cons_zero, List.set_cons_succ])) | (refine run_chain_off rfl rfl (by rfl) (K0_mono _) ?_; (try simp only [Act.put, List.setIfInBounds_toArray, List.set_cons_zero, List.set_cons_succ])) | ((refine run_want rfl rfl (by rfl) ⟨?_, fun W hW => ?_, ?_⟩; rotate_left; (· (skip; go_simp; (try with_reducible rfl)))); (try simp only [Act.put, List.setIfInBounds_toArray, List.set_cons_zero, List.set_cons_succ])))
  refine run_chain rfl rfl (by rfl) (fun Wi hWi K' hK => ?_)
  have HTi := Lib.hid (HT.out.trans hWi)
  have HVHi := Lib.hid (HVH.out.keep (.of_step hWi))
  clear hWi HT HVH
  go_simp
  refine (Take_any _ _ h a _ _ _ n _ HVHi.out (HAA.out.keep (.of_step HTi.out)) (HAN.out.keep (.of_step HTi.out))).mono ?_
  rintro e wn2 ⟨v6, rfl, hv6, hSn⟩
  rw [show actR (doneR h a (takeD h a n)) = tkR h a n from rfl] at hv6 ⊢
  obtain ⟨Q, hP⟩ : ∃ z9, z9 = tkR h a n := ⟨_, rfl⟩
  rw [← hP] at hv6 ⊢
  have HQ := Lib.hid hP
  clear hP
  have HT := Lib.hid (HTi.out.trans hSn)
  clear HVHi HTi
  obtain ⟨x1, x2, x4, rfl, t1, t2, t4⟩ := hv6.book
  obtain ⟨raQ, naQ, rfl⟩ := t1.form
  obtain ⟨rbQ, nbQ, rfl⟩ := t2.form
  obtain ⟨rcQ, ncQ, rfl⟩ := t4.form
  have HAQ := Lib.hid hv6
  clear t1 t2 t4 hv6
  refine hK _ _ (StepX.of hSn) ?_
  clear hSn hK
  (try simp only [Act.put, List.setIfInBounds_toArray, List.set_cons_zero, List.set_cons_succ])
  repeat (first | (refine run_off rfl rfl (by rfl) ?_; (try simp only [Act.put, List.setIfInBounds_toArray, List.set_cons_zero, List.set_cons_succ])) | (refine run_chain_off rfl rfl (by rfl) (K0_mono _) ?_; (try simp only [Act.put, List.setIfInBounds_toArray, List.set_cons_zero, List.set_cons_succ])) | ((refine run_want rfl rfl (by rfl) ⟨?_, fun W hW => ?_, ?_⟩; rotate_left; (· (skip; go_simp; (try with_reducible rfl)))); (try simp only [Act.put, List.setIfInBounds_toArray, List.set_cons_zero, List.set_cons_succ])))
  refine run_alloc rfl rfl (fun W5 gaQ hW5 hg hgb hgN => ?_)
  have hgoQ : ∀ j, j < wn2.heap.size → j = gaQ → j < Wi.heap.size := fun j hj hs => by omega
  (try simp only [Act.put, List.setIfInBounds_toArray, List.set_cons_zero, List.set_cons_succ])
  repeat (first | (refine run_off rfl rfl (by rfl) ?_; (try simp only [Act.put, List.setIfInBounds_toArray, List.set_cons_zero, List.set_cons_succ])) | (refine run_chain_off rfl rfl (by rfl) (K0_mono _) ?_; (try simp only [Act.put, List.setIfInBounds_toArray, List.set_cons_zero, List.set_cons_succ])) | ((refine run_want rfl rfl (by rfl) ⟨?_, fun W hW => ?_, ?_⟩; rotate_left; (· (skip; go_simp; (try with_reducible rfl)))); (try simp only [Act.put, List.setIfInBounds_toArray, List.set_cons_zero, List.set_cons_succ])))
  refine run_end (L := [_, _]) rfl (fun W6 hW6 => ?_)
  have hb6 := Bx.step (w := W5) (cs := [_, _, _, _, _, _]) hg hW6
  refine wpl_store (v := .agg #[.int .i64 ((Q).1).agency, .slice raQ ((Q).1).seats.length naQ, .slice rbQ ((Q).1).off.length nbQ, .int .i64 ((Q).1).sent, .slice rcQ ((Q).1).took.length ncQ, .int .i64 ((Q).1).cash]) rfl _ _ _ rfl rfl rfl hb6 (by kernel_rfl) (by simp [Value.cells]) (by simp [Value.cells, Value.oneCell']) [.int .i64 ((Q).1).agency, .slice raQ ((Q).1).seats.length naQ, .slice rbQ ((Q).1).off.length nbQ, .int .i64 ((Q).1).sent, .slice rcQ ((Q).1).took.length ncQ, .int .i64 ((Q).1).cash] rfl (fun wQ hb7 hw7 => ?_)
  have hkQ : Keeps (fun j => j = gaQ) wn2 wQ := (Keeps.of_step (hW5.trans hW6)).trans (.wrote hw7 rfl)
  have HTx := Lib.hid (Step.wrote ((HT.out.trans hW5).trans hW6) hw7 hgb)
  replace HAQ := Lib.hid (AV.triv (AV.later HAQ.out hgoQ hkQ))
  have HBQ := Lib.hid hb7
  clear hW5 hg hgb hgN hW6 hb6 hb7 hw7 HT
  replace HH := Lib.hid (HH.out.keep (.of_step HTx.out)); replace HAA := Lib.hid (HAA.out.keep (.of_step HTx.out)); replace HAM := Lib.hid (HAM.out.keep (.of_step HTx.out)); replace HAN := Lib.hid (HAN.out.keep (.of_step HTx.out)); replace HAP := Lib.hid (HAP.out.keep (.of_step HTx.out)); replace HB := Lib.hid (HB.out.step HTx.out); replace HBA := Lib.hid (HBA.out.step HTx.out); replace HBM := Lib.hid (HBM.out.step HTx.out); replace HBN := Lib.hid (HBN.out.step HTx.out); replace HBP := Lib.hid (HBP.out.step HTx.out); replace HS := Lib.hid (HS.out.trans HTx.out)
  clear HTx hgoQ hkQ
  by_cases z0 : P.2 = 0
  rotate_left
  · have d : (P.2 == 0) = false := by rw [beq_eq_false_iff_ne]; exact z0
    have d2 : (P.2 != 0) = true := by rw [bne_iff_ne]; exact z0
    have d3 : decide (P.2 = 0) = false := decide_eq_false z0
    clear z0
    have HT := Lib.hid (Step.refl wQ)
    go_wp2_with fail
    refine (awake_any _).mono ?_
    rintro e wz ⟨rfl, hSz⟩
    go_wp2
    go_ret
    exact ⟨rfl, HS.out.trans (HT.out.trans hSz)⟩
  have HZ0 := Lib.hid z0
  have d : (P.2 == 0) = true := by rw [z0]; rfl
  have d2 : (P.2 != 0) = false := by rw [z0]; rfl
  clear z0
  go_upto_region 13 with (fail)
  clear d
  have hR := late_twice HV.out.1 HI.out HA.out.2 (m := m) (by rw [← HA.out.1, ← HP.out]; exact HZ0.out)
  rw [← HA.out.1, ← HP.out] at hR
  have HRR := Lib.hid hR
  clear hR
  obtain ⟨f0, f1, f2, f3, f4, f5⟩ := cells6 HBP.out
  obtain ⟨m0, m1, m2, m3, m4⟩ := cells5 HBM.out
  obtain ⟨e0, e1, e2, e3, e4⟩ := cells5 HB.out
  refine wp_region_seqM (fun c d v a w h => by cases d <;> exact h) (kdOf [1, 4] [(8, 39, .agg #[.int .i64 0, .slice none 0 0, .slice none 0 0, .int .i64 0, .slice none 0 0, .int .i64 0])]) [0, 1, 0, 0, 15, 31, 63, 63, 0, 383, 1023] [0, 2, 3, 1, 4, 5, 6, 7, 8] [9, 10] (by kernel_rfl) (by kernel_rfl) (fun i T z hi hk => by simp only [List.mem_cons, List.not_mem_nil, or_false] at hi; rcases hi with rfl | rfl | rfl | rfl | rfl | rfl | rfl | rfl | rfl <;> simp [kdOf] at hk <;> (obtain ⟨rfl, rfl⟩ := hk; first | (show Option.bind _ _ = some _; kernel_rfl) | (refine ⟨_, rfl, fun _ _ => ?_⟩; go_simp))) ?_
  intro Wx hWx
  have e0 := (hWx).keeps.cell id e0; have e1 := (hWx).keeps.cell id e1; have e2 := (hWx).keeps.cell id e2; have e3 := (hWx).keeps.cell id e3; have e4 := (hWx).keeps.cell id e4; have f0 := (hWx).keeps.cell id f0; have f1 := (hWx).keeps.cell id f1; have f2 := (hWx).keeps.cell id f2; have f3 := (hWx).keeps.cell id f3; have f4 := (hWx).keeps.cell id f4; have f5 := (hWx).keeps.cell id f5; have m0 := (hWx).keeps.cell id m0; have m1 := (hWx).keeps.cell id m1; have m2 := (hWx).keeps.cell id m2; have m3 := (hWx).keeps.cell id m3; have m4 := (hWx).keeps.cell id m4
  repeat (first | (refine run_off rfl rfl (by rfl) ?_; (try simp only [Act.put, List.setIfInBounds_toArray, List.set_cons_zero, List.set_cons_succ])) | (refine run_chain_off rfl rfl (by rfl) (K0_mono _) ?_; (try simp only [Act.put, List.setIfInBounds_toArray, List.set_cons_zero, List.set_cons_succ])) | ((refine run_want rfl rfl (by rfl) ⟨?_, fun W hW => ?_, ?_⟩; rotate_left; (· (have d0 := hW.keeps.cell id e0; have d1 := hW.keeps.cell id e1; have d2 := hW.keeps.cell id e2; have d3 := hW.keeps.cell id e3; have d4 := hW.keeps.cell id e4; have d5 := hW.keeps.cell id f0; have d6 := hW.keeps.cell id f1; have d7 := hW.keeps.cell id f2; have d8 := hW.keeps.cell id f3; have d9 := hW.keeps.cell id f4; have d10 := hW.keeps.cell id f5; have d11 := hW.keeps.cell id m0; have d12 := hW.keeps.cell id m1; have d13 := hW.keeps.cell id m2; have d14 := hW.keeps.cell id m3; have d15 := hW.keeps.cell id m4; go_simp; (try with_reducible rfl)))); (try simp only [Act.put, List.setIfInBounds_toArray, List.set_cons_zero, List.set_cons_succ])))
  clear e0 e1 e2 e3 e4 f0 f1 f2 f3 f4 f5 m0 m1 m2 m3 m4
  refine run_chain rfl rfl (by rfl) (fun Wi hWi K' hK => ?_)
  have HTi := Lib.hid (hWx.trans hWi)
  clear hWx hWi
  go_simp
  refine (House_any _ h _ _ (HH.out.keep (.of_step HTi.out)) (few_valid HV.out.1)).mono ?_
  rintro e wn ⟨vh, rfl, hvh, hSn⟩
  have HVH := Lib.hid (AV.triv hvh)
  have HT := Lib.hid (HTi.out.trans hSn)
  clear HTi hvh
  refine hK _ _ (StepX.of hSn) ?_
  clear hSn hK
  (try simp only [Act.put, List.setIfInBounds_toArray, List.set_cons_zero, List.set_cons_succ])
  repeat (first | (refine run_off rfl rfl (by rfl) ?_; (try simp only [Act.put, List.setIfInBounds_toArray, List.set_cons_zero, List.set_cons_succ])) | (refine run_chain_off rfl rfl (by rfl) (K0_mono _) ?_; (try simp only [Act.put, List.setIfInBounds_toArray, List.set_cons_zero, List.set_cons_succ])) | ((refine run_want rfl rfl (by rfl) ⟨?_, fun W hW => ?_, ?_⟩; rotate_left; (· (skip; go_simp; (try with_reducible rfl)))); (try simp only [Act.put, List.setIfInBounds_toArray, List.set_cons_zero, List.set_cons_succ])))
  refine run_chain rfl rfl (by rfl) (fun Wi hWi K' hK => ?_)
  have HTi := Lib.hid (HT.out.trans hWi)
  have HVHi := Lib.hid (HVH.out.keep (.of_step hWi))
  clear hWi HT HVH
  go_simp
  refine (Take_any _ _ h (P).1 _ _ _ m _ HVHi.out (HAP.out.keep (.of_step HTi.out)) (HAM.out.keep (.of_step HTi.out))).mono ?_
  rintro e wn2 ⟨v6, rfl, hv6, hSn⟩
  rw [show actR (doneR h (P).1 (takeD h (P).1 m)) = tkR h (P).1 m from rfl] at hv6 ⊢
  obtain ⟨R, hP⟩ : ∃ z9, z9 = tkR h (P).1 m := ⟨_, rfl⟩
  rw [← hP] at hv6 ⊢
  have HR := Lib.hid hP
  clear hP
  have HT := Lib.hid (HTi.out.trans hSn)
  clear HVHi HTi
  obtain ⟨x1, x2, x4, rfl, t1, t2, t4⟩ := hv6.book
  obtain ⟨raR, naR, rfl⟩ := t1.form
  obtain ⟨rbR, nbR, rfl⟩ := t2.form
  obtain ⟨rcR, ncR, rfl⟩ := t4.form
  have HAR := Lib.hid hv6
  clear t1 t2 t4 hv6
  refine hK _ _ (StepX.of hSn) ?_
  clear hSn hK
  (try simp only [Act.put, List.setIfInBounds_toArray, List.set_cons_zero, List.set_cons_succ])
  repeat (first | (refine run_off rfl rfl (by rfl) ?_; (try simp only [Act.put, List.setIfInBounds_toArray, List.set_cons_zero, List.set_cons_succ])) | (refine run_chain_off rfl rfl (by rfl) (K0_mono _) ?_; (try simp only [Act.put, List.setIfInBounds_toArray, List.set_cons_zero, List.set_cons_succ])) | ((refine run_want rfl rfl (by rfl) ⟨?_, fun W hW => ?_, ?_⟩; rotate_left; (· (skip; go_simp; (try with_reducible rfl)))); (try simp only [Act.put, List.setIfInBounds_toArray, List.set_cons_zero, List.set_cons_succ])))
  refine run_alloc rfl rfl (fun W5 gaR hW5 hg hgb hgN => ?_)
  have hgoR : ∀ j, j < wn2.heap.size → j = gaR → j < Wi.heap.size := fun j hj hs => by omega
  (try simp only [Act.put, List.setIfInBounds_toArray, List.set_cons_zero, List.set_cons_succ])
  repeat (first | (refine run_off rfl rfl (by rfl) ?_; (try simp only [Act.put, List.setIfInBounds_toArray, List.set_cons_zero, List.set_cons_succ])) | (refine run_chain_off rfl rfl (by rfl) (K0_mono _) ?_; (try simp only [Act.put, List.setIfInBounds_toArray, List.set_cons_zero, List.set_cons_succ])) | ((refine run_want rfl rfl (by rfl) ⟨?_, fun W hW => ?_, ?_⟩; rotate_left; (· (skip; go_simp; (try with_reducible rfl)))); (try simp only [Act.put, List.setIfInBounds_toArray, List.set_cons_zero, List.set_cons_succ])))
  refine run_end (L := [_, _]) rfl (fun W6 hW6 => ?_)
  have hb6 := Bx.step (w := W5) (cs := [_, _, _, _, _, _]) hg hW6
  refine wpl_store (v := .agg #[.int .i64 ((R).1).agency, .slice raR ((R).1).seats.length naR, .slice rbR ((R).1).off.length nbR, .int .i64 ((R).1).sent, .slice rcR ((R).1).took.length ncR, .int .i64 ((R).1).cash]) rfl _ _ _ rfl rfl rfl hb6 (by kernel_rfl) (by simp [Value.cells]) (by simp [Value.cells, Value.oneCell']) [.int .i64 ((R).1).agency, .slice raR ((R).1).seats.length naR, .slice rbR ((R).1).off.length nbR, .int .i64 ((R).1).sent, .slice rcR ((R).1).took.length ncR, .int .i64 ((R).1).cash] rfl (fun wR hb7 hw7 => ?_)
  have hkR : Keeps (fun j => j = gaR) wn2 wR := (Keeps.of_step (hW5.trans hW6)).trans (.wrote hw7 rfl)
  have HTx := Lib.hid (Step.wrote ((HT.out.trans hW5).trans hW6) hw7 hgb)
  replace HAR := Lib.hid (AV.triv (AV.later HAR.out hgoR hkR))
  have HBR := Lib.hid hb7
  clear hW5 hg hgb hgN hW6 hb6 hb7 hw7 HT
  replace HH := Lib.hid (HH.out.keep (.of_step HTx.out)); replace HAA := Lib.hid (HAA.out.keep (.of_step HTx.out)); replace HAM := Lib.hid (HAM.out.keep (.of_step HTx.out)); replace HAN := Lib.hid (HAN.out.keep (.of_step HTx.out)); replace HAP := Lib.hid (HAP.out.keep (.of_step HTx.out)); replace HAQ := Lib.hid (HAQ.out.keep (.of_step HTx.out)); replace HB := Lib.hid (HB.out.step HTx.out); replace HBA := Lib.hid (HBA.out.step HTx.out); replace HBM := Lib.hid (HBM.out.step HTx.out); replace HBN := Lib.hid (HBN.out.step HTx.out); replace HBP := Lib.hid (HBP.out.step HTx.out); replace HBQ := Lib.hid (HBQ.out.step HTx.out); replace HS := Lib.hid (HS.out.trans HTx.out)
  clear HTx hgoR hkR
  have d3 : (R.2 != 6) = false := by rw [HR.out, HRR.out]; rfl
  have HQE := Lib.hid (show alikeB R.1 noBook = true by rw [HR.out, HRR.out]; simp [alikeB])
  obtain ⟨f0, f1, f2, f3, f4, f5⟩ := cells6 HBR.out
  go_wp2_with fail
  refine (empty_any (fun _ => False) R.1 _ _ HAR.out).mono ?_
  rintro e wn ⟨rfl, hSn⟩
  rw [HQE.out]
  clear d3 f0 f1 f2 f3 f4 f5 HBR HAR HQE HRR HR
  replace HH := Lib.hid (HH.out.keep (.of_step hSn)); replace HAA := Lib.hid (HAA.out.keep (.of_step hSn)); replace HAM := Lib.hid (HAM.out.keep (.of_step hSn)); replace HAN := Lib.hid (HAN.out.keep (.of_step hSn)); replace HAP := Lib.hid (HAP.out.keep (.of_step hSn)); replace HAQ := Lib.hid (HAQ.out.keep (.of_step hSn)); replace HB := Lib.hid (HB.out.step hSn); replace HBA := Lib.hid (HBA.out.step hSn); replace HBM := Lib.hid (HBM.out.step hSn); replace HBN := Lib.hid (HBN.out.step hSn); replace HBP := Lib.hid (HBP.out.step hSn); replace HBQ := Lib.hid (HBQ.out.step hSn); replace HS := Lib.hid (HS.out.trans hSn)
  clear hSn
  obtain ⟨m0, m1, m2, m3, m4⟩ := cells5 HBM.out
  obtain ⟨n0, n1, n2, n3, n4⟩ := cells5 HBN.out
  go_upto_region 16 with (fail)
  (try simp only [Act.put, List.setIfInBounds_toArray, List.set_cons_zero, List.set_cons_succ])
  obtain ⟨wz, hwz⟩ : ∃ W, W = wn := ⟨_, rfl⟩
  subst hwz
  obtain ⟨zb, hzb⟩ : ∃ zb : Bool, zb = (decide (Q.2 ≠ 0) || decide (m.frm = n.frm ∧ m.number = n.number)) := ⟨_, rfl⟩
  have HZB := Lib.hid hzb
  clear hzb
  go_cut [127] (fun c wx => c = .bool zb ∧ wx = wz)
  case first =>
    by_cases z1 : Q.2 = 0
    rotate_left
    · have d4 : (Q.2 != 0) = true := by rw [bne_iff_ne]; exact z1
      have HZ2 := Lib.hid (show zb = true by rw [HZB.out]; simp [z1])
      clear z1
      go_wp2
      go_meet
      exact ⟨by rw [HZ2.out], rfl⟩
    have d4 : (Q.2 != 0) = false := by rw [z1]; rfl
    have HZ1 := Lib.hid z1
    clear z1
    by_cases z2 : m.frm = n.frm
    rotate_left
    · have d5 : (m.frm == n.frm) = false := by rw [beq_eq_false_iff_ne]; exact z2
      have HZ2 := Lib.hid (show zb = false by rw [HZB.out]; simp [z2, HZ1.out])
      clear z2
      go_wp2
      go_meet
      exact ⟨by rw [HZ2.out], rfl⟩
    have d5 : (m.frm == n.frm) = true := by rw [z2]; simp
    have HZ3 := Lib.hid z2
    clear z2
    by_cases z2 : m.number = n.number
    · have d6 : (m.number == n.number) = true := by rw [z2]; simp
      have HZ2 := Lib.hid (show zb = true by rw [HZB.out]; simp [z2, HZ1.out, HZ3.out])
      clear z2
      go_wp2
      go_meet
      exact ⟨by rw [HZ2.out], rfl⟩
    · have d6 : (m.number == n.number) = false := by rw [beq_eq_false_iff_ne]; exact z2
      have HZ2 := Lib.hid (show zb = false by rw [HZB.out]; simp [z2, HZ1.out, HZ3.out])
      clear z2
      go_wp2
      go_meet
      exact ⟨by rw [HZ2.out], rfl⟩
  case rest =>
    obtain ⟨rfl, rfl⟩ := hcut
    clear m0 m1 m2 m3 m4 n0 n1 n2 n3 n4 d2
    cases zb with
    | true =>
      have HT := Lib.hid (Step.refl wc)
      go_wp2_with fail
      refine (awake_any _).mono ?_
      rintro e wz ⟨rfl, hSz⟩
      go_wp2
      go_ret
      exact ⟨rfl, HS.out.trans (HT.out.trans hSz)⟩
    | false =>
    have hzq : Q.2 = 0 ∧ ¬ (m.frm = n.frm ∧ m.number = n.number) := by
      have := HZB.out.symm
      rw [Bool.or_eq_false_iff, decide_eq_false_iff_not, decide_eq_false_iff_not] at this
      exact ⟨Classical.not_not.1 this.1, this.2⟩
    have hlate := late_both HV.out.1 HI.out HA.out.2 HMN.out.2.2.1 HMN.out.2.2.2 (by rw [← HA.out.1, ← HMN.out.1, ← HP.out]; exact HZ0.out) (by rw [← HA.out.1, ← HMN.out.2.1, ← HQ.out]; exact hzq.1) (by rw [← HMN.out.1, ← HMN.out.2.1]; exact hzq.2) (HTO.out i)
    rw [← HA.out.1, ← HMN.out.1, ← HMN.out.2.1, ← HP.out, ← HQ.out] at hlate
    have HLATE := Lib.hid hlate
    clear hlate hzq HZB HZ0 HI HTO HLE
    go_upto_region 18 with (fail)
    obtain ⟨f0, f1, f2, f3, f4, f5⟩ := cells6 HBP.out
    obtain ⟨m0, m1, m2, m3, m4⟩ := cells5 HBN.out
    obtain ⟨e0, e1, e2, e3, e4⟩ := cells5 HB.out
    refine wp_region_seqM (fun c d v a w h => by cases d <;> exact h) (kdOf [1, 4] [(8, 39, .agg #[.int .i64 0, .slice none 0 0, .slice none 0 0, .int .i64 0, .slice none 0 0, .int .i64 0])]) [0, 1, 0, 0, 15, 31, 63, 63, 0, 383, 1023] [0, 2, 3, 1, 4, 5, 6, 7, 8] [9, 10] (by kernel_rfl) (by kernel_rfl) (fun i T z hi hk => by simp only [List.mem_cons, List.not_mem_nil, or_false] at hi; rcases hi with rfl | rfl | rfl | rfl | rfl | rfl | rfl | rfl | rfl <;> simp [kdOf] at hk <;> (obtain ⟨rfl, rfl⟩ := hk; first | (show Option.bind _ _ = some _; kernel_rfl) | (refine ⟨_, rfl, fun _ _ => ?_⟩; go_simp))) ?_
    intro Wx hWx
    have e0 := (hWx).keeps.cell id e0; have e1 := (hWx).keeps.cell id e1; have e2 := (hWx).keeps.cell id e2; have e3 := (hWx).keeps.cell id e3; have e4 := (hWx).keeps.cell id e4; have f0 := (hWx).keeps.cell id f0; have f1 := (hWx).keeps.cell id f1; have f2 := (hWx).keeps.cell id f2; have f3 := (hWx).keeps.cell id f3; have f4 := (hWx).keeps.cell id f4; have f5 := (hWx).keeps.cell id f5; have m0 := (hWx).keeps.cell id m0; have m1 := (hWx).keeps.cell id m1; have m2 := (hWx).keeps.cell id m2; have m3 := (hWx).keeps.cell id m3; have m4 := (hWx).keeps.cell id m4
    repeat (first | (refine run_off rfl rfl (by rfl) ?_; (try simp only [Act.put, List.setIfInBounds_toArray, List.set_cons_zero, List.set_cons_succ])) | (refine run_chain_off rfl rfl (by rfl) (K0_mono _) ?_; (try simp only [Act.put, List.setIfInBounds_toArray, List.set_cons_zero, List.set_cons_succ])) | ((refine run_want rfl rfl (by rfl) ⟨?_, fun W hW => ?_, ?_⟩; rotate_left; (· (have d0 := hW.keeps.cell id e0; have d1 := hW.keeps.cell id e1; have d2 := hW.keeps.cell id e2; have d3 := hW.keeps.cell id e3; have d4 := hW.keeps.cell id e4; have d5 := hW.keeps.cell id f0; have d6 := hW.keeps.cell id f1; have d7 := hW.keeps.cell id f2; have d8 := hW.keeps.cell id f3; have d9 := hW.keeps.cell id f4; have d10 := hW.keeps.cell id f5; have d11 := hW.keeps.cell id m0; have d12 := hW.keeps.cell id m1; have d13 := hW.keeps.cell id m2; have d14 := hW.keeps.cell id m3; have d15 := hW.keeps.cell id m4; go_simp; (try with_reducible rfl)))); (try simp only [Act.put, List.setIfInBounds_toArray, List.set_cons_zero, List.set_cons_succ])))
    clear e0 e1 e2 e3 e4 f0 f1 f2 f3 f4 f5 m0 m1 m2 m3 m4
    refine run_chain rfl rfl (by rfl) (fun Wi hWi K' hK => ?_)
    have HTi := Lib.hid (hWx.trans hWi)
    clear hWx hWi
    go_simp
    refine (House_any _ h _ _ (HH.out.keep (.of_step HTi.out)) (few_valid HV.out.1)).mono ?_
    rintro e wn ⟨vh, rfl, hvh, hSn⟩
    have HVH := Lib.hid (AV.triv hvh)
    have HT := Lib.hid (HTi.out.trans hSn)
    clear HTi hvh
    refine hK _ _ (StepX.of hSn) ?_
    clear hSn hK
    (try simp only [Act.put, List.setIfInBounds_toArray, List.set_cons_zero, List.set_cons_succ])
    repeat (first | (refine run_off rfl rfl (by rfl) ?_; (try simp only [Act.put, List.setIfInBounds_toArray, List.set_cons_zero, List.set_cons_succ])) | (refine run_chain_off rfl rfl (by rfl) (K0_mono _) ?_; (try simp only [Act.put, List.setIfInBounds_toArray, List.set_cons_zero, List.set_cons_succ])) | ((refine run_want rfl rfl (by rfl) ⟨?_, fun W hW => ?_, ?_⟩; rotate_left; (· (skip; go_simp; (try with_reducible rfl)))); (try simp only [Act.put, List.setIfInBounds_toArray, List.set_cons_zero, List.set_cons_succ])))
    refine run_chain rfl rfl (by rfl) (fun Wi hWi K' hK => ?_)
    have HTi := Lib.hid (HT.out.trans hWi)
    have HVHi := Lib.hid (HVH.out.keep (.of_step hWi))
    clear hWi HT HVH
    go_simp
    refine (Take_any _ _ h (P).1 _ _ _ n _ HVHi.out (HAP.out.keep (.of_step HTi.out)) (HAN.out.keep (.of_step HTi.out))).mono ?_
    rintro e wn2 ⟨v6, rfl, hv6, hSn⟩
    rw [show actR (doneR h (P).1 (takeD h (P).1 n)) = tkR h (P).1 n from rfl] at hv6 ⊢
    obtain ⟨X, hP⟩ : ∃ z9, z9 = tkR h (P).1 n := ⟨_, rfl⟩
    rw [← hP] at hv6 ⊢
    have HX := Lib.hid hP
    clear hP
    have HT := Lib.hid (HTi.out.trans hSn)
    clear HVHi HTi
    obtain ⟨x1, x2, x4, rfl, t1, t2, t4⟩ := hv6.book
    obtain ⟨raX, naX, rfl⟩ := t1.form
    obtain ⟨rbX, nbX, rfl⟩ := t2.form
    obtain ⟨rcX, ncX, rfl⟩ := t4.form
    have HAX := Lib.hid hv6
    clear t1 t2 t4 hv6
    refine hK _ _ (StepX.of hSn) ?_
    clear hSn hK
    (try simp only [Act.put, List.setIfInBounds_toArray, List.set_cons_zero, List.set_cons_succ])
    repeat (first | (refine run_off rfl rfl (by rfl) ?_; (try simp only [Act.put, List.setIfInBounds_toArray, List.set_cons_zero, List.set_cons_succ])) | (refine run_chain_off rfl rfl (by rfl) (K0_mono _) ?_; (try simp only [Act.put, List.setIfInBounds_toArray, List.set_cons_zero, List.set_cons_succ])) | ((refine run_want rfl rfl (by rfl) ⟨?_, fun W hW => ?_, ?_⟩; rotate_left; (· (skip; go_simp; (try with_reducible rfl)))); (try simp only [Act.put, List.setIfInBounds_toArray, List.set_cons_zero, List.set_cons_succ])))
    refine run_alloc rfl rfl (fun W5 gaX hW5 hg hgb hgN => ?_)
    have hgoX : ∀ j, j < wn2.heap.size → j = gaX → j < Wi.heap.size := fun j hj hs => by omega
    (try simp only [Act.put, List.setIfInBounds_toArray, List.set_cons_zero, List.set_cons_succ])
    repeat (first | (refine run_off rfl rfl (by rfl) ?_; (try simp only [Act.put, List.setIfInBounds_toArray, List.set_cons_zero, List.set_cons_succ])) | (refine run_chain_off rfl rfl (by rfl) (K0_mono _) ?_; (try simp only [Act.put, List.setIfInBounds_toArray, List.set_cons_zero, List.set_cons_succ])) | ((refine run_want rfl rfl (by rfl) ⟨?_, fun W hW => ?_, ?_⟩; rotate_left; (· (skip; go_simp; (try with_reducible rfl)))); (try simp only [Act.put, List.setIfInBounds_toArray, List.set_cons_zero, List.set_cons_succ])))
    refine run_end (L := [_, _]) rfl (fun W6 hW6 => ?_)
    have hb6 := Bx.step (w := W5) (cs := [_, _, _, _, _, _]) hg hW6
    refine wpl_store (v := .agg #[.int .i64 ((X).1).agency, .slice raX ((X).1).seats.length naX, .slice rbX ((X).1).off.length nbX, .int .i64 ((X).1).sent, .slice rcX ((X).1).took.length ncX, .int .i64 ((X).1).cash]) rfl _ _ _ rfl rfl rfl hb6 (by kernel_rfl) (by simp [Value.cells]) (by simp [Value.cells, Value.oneCell']) [.int .i64 ((X).1).agency, .slice raX ((X).1).seats.length naX, .slice rbX ((X).1).off.length nbX, .int .i64 ((X).1).sent, .slice rcX ((X).1).took.length ncX, .int .i64 ((X).1).cash] rfl (fun wX hb7 hw7 => ?_)
    have hkX : Keeps (fun j => j = gaX) wn2 wX := (Keeps.of_step (hW5.trans hW6)).trans (.wrote hw7 rfl)
    have HTx := Lib.hid (Step.wrote ((HT.out.trans hW5).trans hW6) hw7 hgb)
    replace HAX := Lib.hid (AV.triv (AV.later HAX.out hgoX hkX))
    have HBX := Lib.hid hb7
    clear hW5 hg hgb hgN hW6 hb6 hb7 hw7 HT
    replace HH := Lib.hid (HH.out.keep (.of_step HTx.out)); replace HAA := Lib.hid (HAA.out.keep (.of_step HTx.out)); replace HAM := Lib.hid (HAM.out.keep (.of_step HTx.out)); replace HAN := Lib.hid (HAN.out.keep (.of_step HTx.out)); replace HAP := Lib.hid (HAP.out.keep (.of_step HTx.out)); replace HAQ := Lib.hid (HAQ.out.keep (.of_step HTx.out)); replace HB := Lib.hid (HB.out.step HTx.out); replace HBA := Lib.hid (HBA.out.step HTx.out); replace HBM := Lib.hid (HBM.out.step HTx.out); replace HBN := Lib.hid (HBN.out.step HTx.out); replace HBP := Lib.hid (HBP.out.step HTx.out); replace HBQ := Lib.hid (HBQ.out.step HTx.out); replace HS := Lib.hid (HS.out.trans HTx.out)
    clear HTx hgoX hkX
    go_upto_region 19 with (fail)
    obtain ⟨f0, f1, f2, f3, f4, f5⟩ := cells6 HBQ.out
    obtain ⟨m0, m1, m2, m3, m4⟩ := cells5 HBM.out
    obtain ⟨e0, e1, e2, e3, e4⟩ := cells5 HB.out
    refine wp_region_seqM (fun c d v a w h => by cases d <;> exact h) (kdOf [1, 4] [(8, 39, .agg #[.int .i64 0, .slice none 0 0, .slice none 0 0, .int .i64 0, .slice none 0 0, .int .i64 0])]) [0, 1, 0, 0, 15, 31, 63, 63, 0, 383, 1023] [0, 2, 3, 1, 4, 5, 6, 7, 8] [9, 10] (by kernel_rfl) (by kernel_rfl) (fun i T z hi hk => by simp only [List.mem_cons, List.not_mem_nil, or_false] at hi; rcases hi with rfl | rfl | rfl | rfl | rfl | rfl | rfl | rfl | rfl <;> simp [kdOf] at hk <;> (obtain ⟨rfl, rfl⟩ := hk; first | (show Option.bind _ _ = some _; kernel_rfl) | (refine ⟨_, rfl, fun _ _ => ?_⟩; go_simp))) ?_
    intro Wx hWx
    have e0 := (hWx).keeps.cell id e0; have e1 := (hWx).keeps.cell id e1; have e2 := (hWx).keeps.cell id e2; have e3 := (hWx).keeps.cell id e3; have e4 := (hWx).keeps.cell id e4; have f0 := (hWx).keeps.cell id f0; have f1 := (hWx).keeps.cell id f1; have f2 := (hWx).keeps.cell id f2; have f3 := (hWx).keeps.cell id f3; have f4 := (hWx).keeps.cell id f4; have f5 := (hWx).keeps.cell id f5; have m0 := (hWx).keeps.cell id m0; have m1 := (hWx).keeps.cell id m1; have m2 := (hWx).keeps.cell id m2; have m3 := (hWx).keeps.cell id m3; have m4 := (hWx).keeps.cell id m4
    repeat (first | (refine run_off rfl rfl (by rfl) ?_; (try simp only [Act.put, List.setIfInBounds_toArray, List.set_cons_zero, List.set_cons_succ])) | (refine run_chain_off rfl rfl (by rfl) (K0_mono _) ?_; (try simp only [Act.put, List.setIfInBounds_toArray, List.set_cons_zero, List.set_cons_succ])) | ((refine run_want rfl rfl (by rfl) ⟨?_, fun W hW => ?_, ?_⟩; rotate_left; (· (have d0 := hW.keeps.cell id e0; have d1 := hW.keeps.cell id e1; have d2 := hW.keeps.cell id e2; have d3 := hW.keeps.cell id e3; have d4 := hW.keeps.cell id e4; have d5 := hW.keeps.cell id f0; have d6 := hW.keeps.cell id f1; have d7 := hW.keeps.cell id f2; have d8 := hW.keeps.cell id f3; have d9 := hW.keeps.cell id f4; have d10 := hW.keeps.cell id f5; have d11 := hW.keeps.cell id m0; have d12 := hW.keeps.cell id m1; have d13 := hW.keeps.cell id m2; have d14 := hW.keeps.cell id m3; have d15 := hW.keeps.cell id m4; go_simp; (try with_reducible rfl)))); (try simp only [Act.put, List.setIfInBounds_toArray, List.set_cons_zero, List.set_cons_succ])))
    clear e0 e1 e2 e3 e4 f0 f1 f2 f3 f4 f5 m0 m1 m2 m3 m4
    refine run_chain rfl rfl (by rfl) (fun Wi hWi K' hK => ?_)
    have HTi := Lib.hid (hWx.trans hWi)
    clear hWx hWi
    go_simp
    refine (House_any _ h _ _ (HH.out.keep (.of_step HTi.out)) (few_valid HV.out.1)).mono ?_
    rintro e wn ⟨vh, rfl, hvh, hSn⟩
    have HVH := Lib.hid (AV.triv hvh)
    have HT := Lib.hid (HTi.out.trans hSn)
    clear HTi hvh
    refine hK _ _ (StepX.of hSn) ?_
    clear hSn hK
    (try simp only [Act.put, List.setIfInBounds_toArray, List.set_cons_zero, List.set_cons_succ])
    repeat (first | (refine run_off rfl rfl (by rfl) ?_; (try simp only [Act.put, List.setIfInBounds_toArray, List.set_cons_zero, List.set_cons_succ])) | (refine run_chain_off rfl rfl (by rfl) (K0_mono _) ?_; (try simp only [Act.put, List.setIfInBounds_toArray, List.set_cons_zero, List.set_cons_succ])) | ((refine run_want rfl rfl (by rfl) ⟨?_, fun W hW => ?_, ?_⟩; rotate_left; (· (skip; go_simp; (try with_reducible rfl)))); (try simp only [Act.put, List.setIfInBounds_toArray, List.set_cons_zero, List.set_cons_succ])))
    refine run_chain rfl rfl (by rfl) (fun Wi hWi K' hK => ?_)
    have HTi := Lib.hid (HT.out.trans hWi)
    have HVHi := Lib.hid (HVH.out.keep (.of_step hWi))
    clear hWi HT HVH
    go_simp
    refine (Take_any _ _ h (Q).1 _ _ _ m _ HVHi.out (HAQ.out.keep (.of_step HTi.out)) (HAM.out.keep (.of_step HTi.out))).mono ?_
    rintro e wn2 ⟨v6, rfl, hv6, hSn⟩
    rw [show actR (doneR h (Q).1 (takeD h (Q).1 m)) = tkR h (Q).1 m from rfl] at hv6 ⊢
    obtain ⟨Y, hP⟩ : ∃ z9, z9 = tkR h (Q).1 m := ⟨_, rfl⟩
    rw [← hP] at hv6 ⊢
    have HY := Lib.hid hP
    clear hP
    have HT := Lib.hid (HTi.out.trans hSn)
    clear HVHi HTi
    obtain ⟨x1, x2, x4, rfl, t1, t2, t4⟩ := hv6.book
    obtain ⟨raY, naY, rfl⟩ := t1.form
    obtain ⟨rbY, nbY, rfl⟩ := t2.form
    obtain ⟨rcY, ncY, rfl⟩ := t4.form
    have HAY := Lib.hid hv6
    clear t1 t2 t4 hv6
    refine hK _ _ (StepX.of hSn) ?_
    clear hSn hK
    (try simp only [Act.put, List.setIfInBounds_toArray, List.set_cons_zero, List.set_cons_succ])
    repeat (first | (refine run_off rfl rfl (by rfl) ?_; (try simp only [Act.put, List.setIfInBounds_toArray, List.set_cons_zero, List.set_cons_succ])) | (refine run_chain_off rfl rfl (by rfl) (K0_mono _) ?_; (try simp only [Act.put, List.setIfInBounds_toArray, List.set_cons_zero, List.set_cons_succ])) | ((refine run_want rfl rfl (by rfl) ⟨?_, fun W hW => ?_, ?_⟩; rotate_left; (· (skip; go_simp; (try with_reducible rfl)))); (try simp only [Act.put, List.setIfInBounds_toArray, List.set_cons_zero, List.set_cons_succ])))
    refine run_alloc rfl rfl (fun W5 gaY hW5 hg hgb hgN => ?_)
    have hgoY : ∀ j, j < wn2.heap.size → j = gaY → j < Wi.heap.size := fun j hj hs => by omega
    (try simp only [Act.put, List.setIfInBounds_toArray, List.set_cons_zero, List.set_cons_succ])
    repeat (first | (refine run_off rfl rfl (by rfl) ?_; (try simp only [Act.put, List.setIfInBounds_toArray, List.set_cons_zero, List.set_cons_succ])) | (refine run_chain_off rfl rfl (by rfl) (K0_mono _) ?_; (try simp only [Act.put, List.setIfInBounds_toArray, List.set_cons_zero, List.set_cons_succ])) | ((refine run_want rfl rfl (by rfl) ⟨?_, fun W hW => ?_, ?_⟩; rotate_left; (· (skip; go_simp; (try with_reducible rfl)))); (try simp only [Act.put, List.setIfInBounds_toArray, List.set_cons_zero, List.set_cons_succ])))
    refine run_end (L := [_, _]) rfl (fun W6 hW6 => ?_)
    have hb6 := Bx.step (w := W5) (cs := [_, _, _, _, _, _]) hg hW6
    refine wpl_store (v := .agg #[.int .i64 ((Y).1).agency, .slice raY ((Y).1).seats.length naY, .slice rbY ((Y).1).off.length nbY, .int .i64 ((Y).1).sent, .slice rcY ((Y).1).took.length ncY, .int .i64 ((Y).1).cash]) rfl _ _ _ rfl rfl rfl hb6 (by kernel_rfl) (by simp [Value.cells]) (by simp [Value.cells, Value.oneCell']) [.int .i64 ((Y).1).agency, .slice raY ((Y).1).seats.length naY, .slice rbY ((Y).1).off.length nbY, .int .i64 ((Y).1).sent, .slice rcY ((Y).1).took.length ncY, .int .i64 ((Y).1).cash] rfl (fun wY hb7 hw7 => ?_)
    have hkY : Keeps (fun j => j = gaY) wn2 wY := (Keeps.of_step (hW5.trans hW6)).trans (.wrote hw7 rfl)
    have HTx := Lib.hid (Step.wrote ((HT.out.trans hW5).trans hW6) hw7 hgb)
    replace HAY := Lib.hid (AV.triv (AV.later HAY.out hgoY hkY))
    have HBY := Lib.hid hb7
    clear hW5 hg hgb hgN hW6 hb6 hb7 hw7 HT
    replace HH := Lib.hid (HH.out.keep (.of_step HTx.out)); replace HAA := Lib.hid (HAA.out.keep (.of_step HTx.out)); replace HAM := Lib.hid (HAM.out.keep (.of_step HTx.out)); replace HAN := Lib.hid (HAN.out.keep (.of_step HTx.out)); replace HAP := Lib.hid (HAP.out.keep (.of_step HTx.out)); replace HAQ := Lib.hid (HAQ.out.keep (.of_step HTx.out)); replace HAX := Lib.hid (HAX.out.keep (.of_step HTx.out)); replace HB := Lib.hid (HB.out.step HTx.out); replace HBA := Lib.hid (HBA.out.step HTx.out); replace HBM := Lib.hid (HBM.out.step HTx.out); replace HBN := Lib.hid (HBN.out.step HTx.out); replace HBP := Lib.hid (HBP.out.step HTx.out); replace HBQ := Lib.hid (HBQ.out.step HTx.out); replace HBX := Lib.hid (HBX.out.step HTx.out); replace HS := Lib.hid (HS.out.trans HTx.out)
    clear HTx hgoY hkY
    have hl := HLATE.out
    rw [← HX.out, ← HY.out] at hl
    have d1 : (X.2 != 0) = false := by rw [hl.1]; rfl
    have d2 : (Y.2 != 0) = false := by rw [hl.2.1]; rfl
    have d3 : (X.1.cash != Y.1.cash) = false := by rw [hl.2.2.1]; simp
    have d4 : ((X.1.seats.length : Int) != (Y.1.seats.length : Int)) = false := by rw [hl.2.2.2]; simp
    have HSE := Lib.hid hl.2.2.2
    clear hl HLATE HAA HAM HAN HAP HAQ HBA HBM HBN HBP HBQ HX HY HB HH
    obtain ⟨f0, f1, f2, f3, f4, f5⟩ := cells6 HBX.out
    obtain ⟨g0, g1, g2, g3, g4, g5⟩ := cells6 HBY.out
    go_upto_region 22 with (fail)
    clear d1 d2 d3 d4
    obtain ⟨px, kx, bx, ox, hpe, _, _, hpx, hcx, _⟩ := HAX.out.rows6.1.rows
    injection hpe with hpe1 hpe2 hpe3
    clear hpe2 hpe3
    subst hpe1
    obtain ⟨py, ky, by', oy, hpe, _, _, hpy, hcy, _⟩ := HAY.out.rows6.1.rows
    injection hpe with hpe1 hpe2 hpe3
    clear hpe2 hpe3
    subst hpe1
    have HCX := Lib.hid (And.intro hpx hcx)
    have HCY := Lib.hid (And.intro hpy hcy)
    obtain ⟨nX, hnX⟩ : ∃ n, n = X.1.seats.length := ⟨_, rfl⟩
    have hnY : Y.1.seats.length = nX := by rw [← HSE.out, hnX]
    have hbX := HBX.out
    have hbY := HBY.out
    rw [← hnX] at hbX
    rw [hnY] at hbY
    have hx6 : nX ≤ 9223372036854775807 := by rw [hnX]; exact HAX.out.rows6.1.len
    have HNX := Lib.hid (And.intro hnX hnY)
    have HBX2 := Lib.hid hbX
    have HBY2 := Lib.hid hbY
    rw [← hnX, hnY]
    clear hpx hcx hpy hcy hbX hbY hnX hnY HBX HBY f0 f1 f2 f3 f4 f5 g0 g1 g2 g3 g4 g5
    obtain ⟨wz, hwz⟩ : ∃ W, W = wY := ⟨_, rfl⟩
    subst hwz
    have HT0 := Lib.hid (Step.refl wz)
    go_upto_region 23 with (fail)
    go_loopw [26] (fun i wr => ∃ k : Nat, k ≤ nX ∧ i = .int .i64 k ∧ Step wz wr) (fun i _ => nX - (intOf i).toNat)
    case atStart => exact ⟨0, Nat.zero_le _, rfl, HT0.out⟩
    case round =>
      obtain ⟨k, hk, rfl, hT⟩ := hrel
      have HT := Lib.hid hT
      clear hT
      obtain ⟨f0, f1, f2, f3, f4, f5⟩ := cells6 (HBX2.out.step HT.out)
      obtain ⟨g0, g1, g2, g3, g4, g5⟩ := cells6 (HBY2.out.step HT.out)
      by_cases hlt : k < nX
      · have hkx : k < X.1.seats.length := by rw [← HNX.out.1]; exact hlt
        have hky : k < Y.1.seats.length := by rw [HNX.out.2]; exact hlt
        obtain rfl := HCX.out.1 (by omega)
        obtain rfl := HCY.out.1 (by omega)
        obtain ⟨ux, gx1, hux⟩ := HCX.out.2 k hkx
        obtain ⟨uy, gy1, huy⟩ := HCY.out.2 k hky
        have gx1 := (HT.out).keeps.cell id gx1; have gy1 := (HT.out).keeps.cell id gy1
        have hrows : ∀ (A B : List (List Int)) (ha : k < A.length) (hb : k < B.length), A = B → B[k] = A[k] := by intro A B ha hb e; subst e; rfl
        rw [hrows _ _ hkx hky HSE.out] at huy
        have HUX := Lib.hid (And.intro hux huy)
        clear hux huy hrows
        have hix : (0 : Int) ≤ (k : Int) ∧ (k : Int) < (nX : Int) := by omega
        go_upto_region 25 with (fail)
        refine wp_region_seq (kdOf [10] []) [0, 1, 0, 7, 15, 0, 32, 0, 224, 480, 1023, 2047] [0, 1, 2, 3, 4, 5, 6, 7, 8, 9, 10, 11] [] (by kernel_rfl) (by kernel_rfl) (fun i T z hi hk => by simp [kdOf] at hk <;> (try (split at hk <;> cases hk))) ?_
        intro Wx hWx
        have f0 := (hWx).keeps.cell id f0; have f1 := (hWx).keeps.cell id f1; have f2 := (hWx).keeps.cell id f2; have f3 := (hWx).keeps.cell id f3; have f4 := (hWx).keeps.cell id f4; have f5 := (hWx).keeps.cell id f5; have g0 := (hWx).keeps.cell id g0; have g1 := (hWx).keeps.cell id g1; have g2 := (hWx).keeps.cell id g2; have g3 := (hWx).keeps.cell id g3; have g4 := (hWx).keeps.cell id g4; have g5 := (hWx).keeps.cell id g5; have gx1 := (hWx).keeps.cell id gx1; have gy1 := (hWx).keeps.cell id gy1
        repeat (first | (refine run_off rfl rfl (by rfl) ?_; (try simp only [Act.put, List.setIfInBounds_toArray, List.set_cons_zero, List.set_cons_succ])) | (refine run_chain_off rfl rfl (by rfl) (K0_mono _) ?_; (try simp only [Act.put, List.setIfInBounds_toArray, List.set_cons_zero, List.set_cons_succ])) | ((refine run_want rfl rfl (by rfl) ⟨?_, fun W hW => ?_, ?_⟩; rotate_left; (· (have d0 := hW.keeps.cell id f1; have d1 := hW.keeps.cell id g1; have d2 := hW.keeps.cell id gx1; have d3 := hW.keeps.cell id gy1; go_simp; (try with_reducible rfl)))); (try simp only [Act.put, List.setIfInBounds_toArray, List.set_cons_zero, List.set_cons_succ])))
        refine run_chain rfl rfl (by rfl) (fun Wi hWi K' hK => ?_)
        have HTi := Lib.hid (HT.out.trans (hWx.trans hWi))
        clear hWx hWi f0 f1 f2 f3 f4 f5 g0 g1 g2 g3 g4 g5 gx1 gy1
        go_simp
        refine (ints_any (fun _ => False) _ _ _ _ _ (HUX.out.1.keep (.of_step HTi.out)) (HUX.out.2.keep (.of_step HTi.out))).mono ?_
        rintro e wn ⟨rfl, hSn⟩
        rw [show intsB (X.1.seats[k]'hkx) (X.1.seats[k]'hkx) = true by simp [intsB]]
        refine hK _ _ (StepX.of hSn) ?_
        have HT2 := Lib.hid (HTi.out.trans hSn)
        clear hSn hK HTi
        (try simp only [Act.put, List.setIfInBounds_toArray, List.set_cons_zero, List.set_cons_succ])
        repeat (first | (refine run_off rfl rfl (by rfl) ?_; (try simp only [Act.put, List.setIfInBounds_toArray, List.set_cons_zero, List.set_cons_succ])) | (refine run_chain_off rfl rfl (by rfl) (K0_mono _) ?_; (try simp only [Act.put, List.setIfInBounds_toArray, List.set_cons_zero, List.set_cons_succ])) | ((refine run_want rfl rfl (by rfl) ⟨?_, fun W hW => ?_, ?_⟩; rotate_left; (· (skip; go_simp; (try with_reducible rfl)))); (try simp only [Act.put, List.setIfInBounds_toArray, List.set_cons_zero, List.set_cons_succ])))
        refine run_end (L := []) rfl (fun W7 hW7 => ?_)
        have HT3 := Lib.hid (HT2.out.trans hW7)
        go_wp2
        go_roundw
        case rel => exact ⟨k + 1, by omega, by go_num, HT3.out⟩
        case measure => simp [intOf]; omega
      · skip
        go_wp2_with fail
        refine (awake_any _).mono ?_
        rintro e wz ⟨rfl, hSz⟩
        go_wp2
        go_ret
        exact ⟨rfl, HS.out.trans (HT.out.trans hSz)⟩
end Go.Proofs.Ytgpiieogiafdoaa
