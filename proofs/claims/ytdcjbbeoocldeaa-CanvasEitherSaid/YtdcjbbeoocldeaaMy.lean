/- CanvasEither holds of every input, and its arguments read afterwards as they did. -/
import Derived.Test.YtdcjbbeoocldeaaMk
import Derived.Test.YtdcjbbeoocldeaaMq
import Derived.Test.YtdcjbbeoocldeaaMw
import Derived.Test.YtdcjbbeoocldeaaMx
import Derived.Test.YtdcjbbeoocldeaaRows
/- Walks: the law CanvasEither: it answers true. -/
namespace Go.Proofs.Ytdcjbbeoocldeaa
set_option linter.unusedSimpArgs false
set_option linter.unusedVariables false
open Go.RowKit Go.BT

theorem is_ok {F : List Vec} {p : Vec} {b : Bal} (h : isBalL F p b = true) : okBal F p b := by
  simp only [isBalL, withinB, Bool.and_eq_true, decide_eq_true_eq, List.all_eq_true] at h
  obtain ⟨⟨⟨⟨⟨h2, h3⟩, h1⟩, h4⟩, h5⟩, h6⟩ := h
  exact ⟨h1, h2, h3, fun t ht => h4 t ht, h5, h6⟩
theorem is_bal {F : List Vec} {p : Vec} {b : Bal} (h : isBalL F p b = true) : balL F p = true := balL_iff.2 fun _ => weak_none (is_ok h)
theorem either_at {l : List Tst} {t : List Head} (hr : readyC l t = 0) (hs : soundC l = 0) {i : Nat} (hi : i < t.length) {p : Vec} (hc : cornerB p = true) : atC l t (i : Int) (cornerB p) = 0 := by
  unfold atC
  rw [if_pos hr, hc, if_pos, hs]
  simp [withinB]; omega
theorem either_small {l : List Tst} {t : List Head} (hr : readyC l t = 0) {i : Nat} (hi : i < t.length) : smallV (headF l t (i : Int)) := by
  have h1 := (tent_parts (ready_ok hr).2)
  have h2 := head_parts (all_get h1.2 hi)
  unfold headF
  rw [headAt_eq hi]
  exact forces_small (ready_ok hr).1 h2.2.2.2
theorem either_blown {l : List Tst} {t : List Head} (hr : readyC l t = 0) (hs : soundC l = 0) {i : Nat} (hi : i < t.length) {p : Vec} (hc : cornerB p = true) : blownC l [t[i]] [p] = 0 := by
  refine blown_one hr hs hi ?_
  unfold windB
  simp [withinB, hc]
theorem either_stand {l : List Tst} {t : List Head} {i : Nat} (hi : i < t.length) {p : Vec} : standB l [t[i]] [p] = balL (headF l t (i : Int)) (headP t (i : Int) p) := by
  rw [stand_one]
  unfold headF headP
  rw [headAt_eq hi]
  simp
theorem either_is {l : List Tst} {t : List Head} (hr : readyC l t = 0) (hs : soundC l = 0) {i : Nat} (hi : i < t.length) {p : Vec} (hc : cornerB p = true) (hb : balL (headF l t (i : Int)) (headP t (i : Int) p) = true) :
    balC l t (i : Int) p = 0 ∧ proveBalL l t (i : Int) p (balR l t (i : Int) p) = true ∧ weakR l [t[i]] [p] = (-1, -1) ∧ ∀ way, proveWeakL l t (i : Int) p way = false := by
  have h1 := either_at hr hs hi hc
  have h2 : (searchL (headF l t (i : Int)) (headP t (i : Int) p)).2 = true := by rw [search_bal (either_small hr hi), hb]
  have h3 : balC l t (i : Int) p = 0 := by unfold balC; rw [if_pos h1, if_pos h2]
  refine ⟨h3, ?_, ?_, fun way => ?_⟩
  · unfold proveBalL balR
    rw [h1, if_pos h3, search_is (either_small hr hi) h2]; rfl
  · unfold weakR
    rw [if_pos (either_blown hr hs hi hc)]
    exact weakP_iff.2 (by rw [either_stand hi, hb])
  · unfold proveWeakL isWeakL
    have := balL_iff.1 hb way
    rw [show decide (helpL (headF l t (i : Int)) way < dotV way (headP t (i : Int) p)) = false from decide_eq_false (by omega)]
    simp
theorem either_not {l : List Tst} {t : List Head} (hr : readyC l t = 0) (hs : soundC l = 0) {i : Nat} (hi : i < t.length) {p : Vec} (hc : cornerB p = true) (hb : balL (headF l t (i : Int)) (headP t (i : Int) p) = false) :
    balC l t (i : Int) p = 7 ∧ weakR l [t[i]] [p] = (0, 0) ∧ (∀ a b, TooWeak l [t[i]] [p] (weakP l [t[i]] [p]).1 (weakP l [t[i]] [p]).2 a b → proveWeakL l t (i : Int) p ⟨a, b⟩ = true) ∧ ∀ b, proveBalL l t (i : Int) p b = false := by
  have h1 := either_at hr hs hi hc
  have h2 : (searchL (headF l t (i : Int)) (headP t (i : Int) p)).2 = false := by rw [search_bal (either_small hr hi), hb]
  have hw : weakP l [t[i]] [p] = (0, 0) := by
    obtain ⟨j, k, hj, hk, e⟩ := weakP_some (l := l) (t := [t[i]]) (wind := [p]) (by rw [either_stand hi, hb])
    have : j = 0 := by simpa using hj
    have : k = 0 := by simpa using hk
    subst j k
    exact e
  refine ⟨?_, ?_, fun a b htw => ?_, fun b => ?_⟩
  · unfold balC; rw [if_pos h1, if_neg (by rw [h2]; decide)]
  · unfold weakR
    rw [if_pos (either_blown hr hs hi hc), hw]
  · rw [hw] at htw
    have hrow := htw 0 0 (by simp) (by simp) rfl rfl
    simp only [List.getElem_cons_zero] at hrow
    unfold proveWeakL isWeakL wayInB headF headP
    rw [headAt_eq hi, h1]
    simp only [Bool.and_eq_true, within_iff, decide_eq_true_eq]
    exact ⟨by trivial, ⟨by omega, by omega⟩, hrow.1⟩
  · unfold proveBalL
    cases q : isBalL (headF l t (i : Int)) (headP t (i : Int) p) b with
    | true => rw [is_bal q] at hb; exact absurd hb (by decide)
    | false => simp
set_option maxRecDepth 100000 in
set_option maxHeartbeats 8000000 in
theorem CanvasEither_any (l : List Tst) (t : List Head) (i0 : Int) (p way : Vec) (bb : Bal) (v u vb : Value) (w : World) (hv : SL (fun _ => False) w v l) (hu : SL (fun _ => False) w u t) (hi : (Lit.int .u8 i0).wf = true) (hb : AV (fun _ => False) w vb bb) :
    Calls Try.prog 11 #[v, u, .int .u8 i0, .agg #[.int .i64 p.x, .int .i64 p.y], .agg #[.int .i64 way.x, .int .i64 way.y], vb] w fun e w' => e = .returned (.bool true) ∧ Step w w' := by
  obtain ⟨c1, rfl, hbl⟩ := hb.bal
  obtain ⟨pb, kb, rfl⟩ := hbl.form
  obtain ⟨W0, hW0⟩ : ∃ W, W = ((w.alloc (.cells #[.int .i64 p.x, .int .i64 p.y] 26)).alloc (.cells #[.int .i64 way.x, .int .i64 way.y] 26)).alloc (.cells #[.int .i64 bb.whole, .slice pb bb.parts.length kb] 52) := ⟨_, rfl⟩
  have hb1 : Bx W0 w.heap.size [.int .i64 p.x, .int .i64 p.y] 26 := by subst hW0; exact ((Bx.new w [_, _] _).alloc _).alloc _
  have hb2 : Bx W0 (w.heap.size + 1) [.int .i64 way.x, .int .i64 way.y] 26 := by subst hW0; exact (Bx.new' _ [_, _] _ _ (by simp)).alloc _
  have hb3 : Bx W0 (w.heap.size + 2) [.int .i64 bb.whole, .slice pb bb.parts.length kb] 52 := by subst hW0; exact Bx.new' _ [_, _] _ _ (by simp)
  have hS : Step w W0 := by subst hW0; exact (by repeat (first | (with_reducible assumption) | (with_reducible exact Step.refl _) | (with_reducible apply Step.s_alloc) | (with_reducible apply Step.s_drew) | (with_reducible apply Step.s_drewN) | (with_reducible refine Step.trans ?_ (by with_reducible assumption))))
  have HB1 := Lib.hid hb1
  have HB2 := Lib.hid hb2
  have HB3 := Lib.hid hb3
  have HV := Lib.hid (SL.go hv hS)
  have HU := Lib.hid (SL.go hu hS)
  have HBL := Lib.hid (SL.go hbl hS)
  have HS := Lib.hid hS
  have HT := Lib.hid (Step.refl W0)
  have HW := Lib.hid hW0
  have HIU := Lib.hid (u8_of hi)
  obtain ⟨pv, cv, rfl⟩ := hv.form
  obtain ⟨pu, cu, rfl⟩ := hu.form
  clear hb1 hb2 hb3 hS hW0 hv hu hb hbl hi
  go_enter Try.func11, Try.ntmps11
  go_upto_region 1 with (fail)
  rw [← HW.out]
  clear HW
  go_wp2_with fail
  refine (Few_any (fun _ => False) l t _ _ _ (HV.out.keep (.of_step HT.out)) (HU.out.keep (.of_step HT.out))).mono ?_
  rintro e wn ⟨rfl, hSn⟩
  have HTi := Lib.hid (HT.out.trans hSn)
  clear hSn HT
  have HT := HTi
  clear HTi
  cases qf : few l t with
  | false =>
    clear qf
    go_wp2_with fail
    refine (wakes_any _).mono ?_
    rintro e wz ⟨rfl, hSz⟩
    go_wp2
    go_ret
    exact ⟨rfl, HS.out.trans (HT.out.trans hSz)⟩
  | true =>
  have HFEW := Lib.hid (few_of qf)
  clear qf
  go_wp2_with fail
  refine (Fault_any (fun _ => False) l t _ _ _ (SL.go HV.out HT.out) (SL.go HU.out HT.out)).mono ?_
  rintro e wn ⟨rfl, hSn⟩
  have HTi := Lib.hid (HT.out.trans hSn)
  clear hSn HT
  have HT := HTi
  clear HTi
  obtain ⟨c, hc⟩ : ∃ c, c = readyC l t := ⟨_, rfl⟩
  rw [← hc]
  by_cases h0 : c = 0
  rotate_left
  · have hd : (c != 0) = true := by simpa using h0
    clear h0 hc
    go_wp2_with fail
    refine (wakes_any _).mono ?_
    rintro e wz ⟨rfl, hSz⟩
    go_wp2
    go_ret
    exact ⟨rfl, HS.out.trans (HT.out.trans hSz)⟩
  subst h0
  have HRD := Lib.hid hc.symm
  clear hc
  go_wp2_with fail
  refine (clashing_any (fun _ => False) l _ _ (SL.go HV.out HT.out) (ready_ok HRD.out).1).mono ?_
  rintro e wn ⟨rfl, hSn⟩
  have HTi := Lib.hid (HT.out.trans hSn)
  clear hSn HT
  have HT := HTi
  clear HTi
  obtain ⟨c, hc⟩ : ∃ c, c = soundC l := ⟨_, rfl⟩
  rw [← hc]
  by_cases h0 : c = 0
  rotate_left
  · have hd : (c != 0) = true := by simpa using h0
    clear h0 hc
    go_wp2_with fail
    refine (wakes_any _).mono ?_
    rintro e wz ⟨rfl, hSz⟩
    go_wp2
    go_ret
    exact ⟨rfl, HS.out.trans (HT.out.trans hSz)⟩
  subst h0
  have HSD := Lib.hid hc.symm
  clear hc
  have n0 := (HB1.out.step HT.out).cell 0
  have n1 := (HB1.out.step HT.out).cell 1
  have m0 := (HB2.out.step HT.out).cell 0
  have m1 := (HB2.out.step HT.out).cell 1
  have r0 := (HB3.out.step HT.out).cell 0
  have r1 := (HB3.out.step HT.out).cell 1
  simp only [List.getElem?_cons_zero, List.getElem?_cons_succ] at n0 n1 m0 m1 r0 r1
  go_wp2_with fail
  refine (Corner_any p _).mono ?_
  rintro e wn ⟨rfl, hSn⟩
  have HTi := Lib.hid (HT.out.trans hSn)
  clear hSn HT
  have HT := HTi
  clear HTi
  clear n0 n1 m0 m1 r0 r1
  cases qc : cornerB p with
  | false =>
    clear qc
    go_wp2_with fail
    refine (wakes_any _).mono ?_
    rintro e wz ⟨rfl, hSz⟩
    go_wp2
    go_ret
    exact ⟨rfl, HS.out.trans (HT.out.trans hSz)⟩
  | true =>
  have HCN := Lib.hid qc
  clear qc
  have n0 := (HB1.out.step HT.out).cell 0
  have n1 := (HB1.out.step HT.out).cell 1
  have m0 := (HB2.out.step HT.out).cell 0
  have m1 := (HB2.out.step HT.out).cell 1
  have r0 := (HB3.out.step HT.out).cell 0
  have r1 := (HB3.out.step HT.out).cell 1
  simp only [List.getElem?_cons_zero, List.getElem?_cons_succ] at n0 n1 m0 m1 r0 r1
  by_cases h12 : 12 < (bb.parts.length : Int)
  · have hd : decide (12 < (bb.parts.length : Int)) = true := by simpa using h12
    clear h12
    go_wp2_with fail
    refine (wakes_any _).mono ?_
    rintro e wz ⟨rfl, hSz⟩
    go_wp2
    go_ret
    exact ⟨rfl, HS.out.trans (HT.out.trans hSz)⟩
  have hd : decide (12 < (bb.parts.length : Int)) = false := by simpa using h12
  have HL12 := Lib.hid (show bb.parts.length ≤ 12 by omega)
  clear h12
  go_upto_region 3 with (fail)
  clear hd
  clear n0 n1 m0 m1 r0 r1
  have HSZ0 := Lib.hid (HT.out.size)
  refine wp_region_seq (kdOf [1, 3, 5] [(6, 40, .agg #[.int .i64 0, .int .i64 0])]) [0, 1, 0, 7, 0, 31, 0, 127, 255, 511] [0, 2, 4, 1, 3, 5, 6, 7, 8] [9] (by kernel_rfl) (by kernel_rfl) (fun i T z hi hk => by simp only [List.mem_cons, List.not_mem_nil, or_false] at hi; rcases hi with rfl | rfl | rfl | rfl | rfl | rfl | rfl | rfl | rfl <;> simp [kdOf] at hk <;> (obtain ⟨rfl, rfl⟩ := hk; first | (show Option.bind _ _ = some _; kernel_rfl) | (refine ⟨_, rfl, fun _ _ => ?_⟩; go_simp))) ?_
  intro Wx hWx
  have HTx := Lib.hid (HT.out.trans hWx)
  clear hWx HT
  have HT := HTx
  clear HTx
  have n0 := (HB1.out.step HT.out).cell 0
  have n1 := (HB1.out.step HT.out).cell 1
  have m0 := (HB2.out.step HT.out).cell 0
  have m1 := (HB2.out.step HT.out).cell 1
  have r0 := (HB3.out.step HT.out).cell 0
  have r1 := (HB3.out.step HT.out).cell 1
  simp only [List.getElem?_cons_zero, List.getElem?_cons_succ] at n0 n1 m0 m1 r0 r1
  repeat (first | (refine run_off rfl rfl (by rfl) ?_; (try simp only [Act.put, List.setIfInBounds_toArray, List.set_cons_zero, List.set_cons_succ])) | (refine run_chain_off rfl rfl (by rfl) (K0_mono _) ?_; (try simp only [Act.put, List.setIfInBounds_toArray, List.set_cons_zero, List.set_cons_succ])) | ((refine run_want rfl rfl (by rfl) ⟨?_, fun W hW => ?_, ?_⟩; rotate_left; (· (have d0 := hW.keeps.cell id n0; have d1 := hW.keeps.cell id n1; go_simp; (try with_reducible rfl)))); (try simp only [Act.put, List.setIfInBounds_toArray, List.set_cons_zero, List.set_cons_succ])))
  clear n0 n1 m0 m1 r0 r1
  refine run_chain rfl rfl (by rfl) (fun Wi hWi K' hK => ?_)
  have HTi := Lib.hid (HT.out.trans hWi)
  have HZW := Lib.hid HTi.out.size
  clear hWi HT
  go_simp
  refine (Tests_any _ l _ _ (SL.go HV.out HTi.out) (by have := HFEW.out.1; omega)).mono ?_
  rintro e wn ⟨v1, rfl, hv1, hSn⟩
  have HT := Lib.hid (HTi.out.trans (StepX.of hSn))
  clear HTi
  have Hhv1 := Lib.hid (hv1.weak (T := fun j => Old Wi j ∨ wn.heap.size ≤ j) (fun j hj hs => hs.resolve_right (by omega)))
  clear hv1
  refine hK _ _ (StepX.of hSn) ?_
  clear hSn
  (try simp only [Act.put, List.setIfInBounds_toArray, List.set_cons_zero, List.set_cons_succ])
  repeat (first | (refine run_off rfl rfl (by rfl) ?_; (try simp only [Act.put, List.setIfInBounds_toArray, List.set_cons_zero, List.set_cons_succ])) | (refine run_chain_off rfl rfl (by rfl) (K0_mono _) ?_; (try simp only [Act.put, List.setIfInBounds_toArray, List.set_cons_zero, List.set_cons_succ])) | ((refine run_want rfl rfl (by rfl) ⟨?_, fun W hW => ?_, ?_⟩; rotate_left; (· (skip; go_simp; (try with_reducible rfl)))); (try simp only [Act.put, List.setIfInBounds_toArray, List.set_cons_zero, List.set_cons_succ])))
  refine run_chain rfl rfl (by rfl) (fun Wi hWi K' hK => ?_)
  have HTi := Lib.hid (HT.out.trans hWi)
  have h1i := Lib.hid (SL.keep (.of_step hWi) Hhv1.out)
  clear hWi HT Hhv1
  go_simp
  refine (Tent_any _ t _ _ (SL.go HU.out HTi.out) HFEW.out.2).mono ?_
  rintro e wn ⟨v2, rfl, hv2, hSn⟩
  have HT := Lib.hid (HTi.out.trans (StepX.of hSn))
  have Hhv1 := Lib.hid (SL.keep (.of_step hSn) h1i.out)
  have HZI := Lib.hid HTi.out.size
  clear HTi h1i
  have Hhv2 := Lib.hid (hv2.weak (T := fun j => Old Wi j ∨ wn.heap.size ≤ j) (fun j hj hs => hs.resolve_right (by omega)))
  clear hv2
  refine hK _ _ (StepX.of hSn) ?_
  clear hSn
  (try simp only [Act.put, List.setIfInBounds_toArray, List.set_cons_zero, List.set_cons_succ])
  have n0 := (HB1.out.step HT.out).cell 0
  have n1 := (HB1.out.step HT.out).cell 1
  have m0 := (HB2.out.step HT.out).cell 0
  have m1 := (HB2.out.step HT.out).cell 1
  have r0 := (HB3.out.step HT.out).cell 0
  have r1 := (HB3.out.step HT.out).cell 1
  simp only [List.getElem?_cons_zero, List.getElem?_cons_succ] at n0 n1 m0 m1 r0 r1
  repeat (first | (refine run_off rfl rfl (by rfl) ?_; (try simp only [Act.put, List.setIfInBounds_toArray, List.set_cons_zero, List.set_cons_succ])) | (refine run_chain_off rfl rfl (by rfl) (K0_mono _) ?_; (try simp only [Act.put, List.setIfInBounds_toArray, List.set_cons_zero, List.set_cons_succ])) | ((refine run_want rfl rfl (by rfl) ⟨?_, fun W hW => ?_, ?_⟩; rotate_left; (· (have d0 := hW.keeps.cell id n0; have d1 := hW.keeps.cell id n1; go_simp; (try with_reducible rfl)))); (try simp only [Act.put, List.setIfInBounds_toArray, List.set_cons_zero, List.set_cons_succ])))
  clear n0 n1 m0 m1 r0 r1
  refine run_chain rfl rfl (by rfl) (fun Wi hWi K' hK => ?_)
  have HTi := Lib.hid (HT.out.trans hWi)
  have h1i := Lib.hid (Hhv1.out.keep (.of_step hWi))
  have h2i := Lib.hid (Hhv2.out.keep (.of_step hWi))
  clear hWi HT Hhv1 Hhv2
  go_simp
  refine (Vector_any p _).mono ?_
  rintro e wn ⟨rfl, hSn⟩
  have HT := Lib.hid (HTi.out.trans (StepX.of hSn))
  have Hhv1 := Lib.hid (h1i.out.keep (.of_step hSn))
  have Hhv2 := Lib.hid (h2i.out.keep (.of_step hSn))
  have HZI := Lib.hid HTi.out.size
  clear HTi h1i h2i
  refine hK _ _ (StepX.of hSn) ?_
  clear hSn
  (try simp only [Act.put, List.setIfInBounds_toArray, List.set_cons_zero, List.set_cons_succ])
  repeat (first | (refine run_off rfl rfl (by rfl) ?_; (try simp only [Act.put, List.setIfInBounds_toArray, List.set_cons_zero, List.set_cons_succ])) | (refine run_chain_off rfl rfl (by rfl) (K0_mono _) ?_; (try simp only [Act.put, List.setIfInBounds_toArray, List.set_cons_zero, List.set_cons_succ])) | ((refine run_want rfl rfl (by rfl) ⟨?_, fun W hW => ?_, ?_⟩; rotate_left; (· (skip; go_simp; (try with_reducible rfl)))); (try simp only [Act.put, List.setIfInBounds_toArray, List.set_cons_zero, List.set_cons_succ])))
  refine run_alloc rfl rfl (fun W5 gp hW5 hg hgb hgN => ?_)
  (try simp only [Act.put, List.setIfInBounds_toArray, List.set_cons_zero, List.set_cons_succ])
  repeat (first | (refine run_off rfl rfl (by rfl) ?_; (try simp only [Act.put, List.setIfInBounds_toArray, List.set_cons_zero, List.set_cons_succ])) | (refine run_chain_off rfl rfl (by rfl) (K0_mono _) ?_; (try simp only [Act.put, List.setIfInBounds_toArray, List.set_cons_zero, List.set_cons_succ])) | ((refine run_want rfl rfl (by rfl) ⟨?_, fun W hW => ?_, ?_⟩; rotate_left; (· (skip; go_simp; (try with_reducible rfl)))); (try simp only [Act.put, List.setIfInBounds_toArray, List.set_cons_zero, List.set_cons_succ])))
  refine run_end (L := [_]) rfl (fun W6 hW6 => ?_)
  have hb6 := Bx.step (w := W5) (cs := [_, _]) hg hW6
  refine wpl_store (v := .agg #[.int .i64 p.x, .int .i64 p.y]) rfl _ _ _ rfl rfl rfl hb6 (by kernel_rfl) (by simp [Value.cells]) (by simp [Value.cells, Value.oneCell']) [.int .i64 p.x, .int .i64 p.y] rfl (fun w7 hb7 hw7 => ?_)
  have HVP := Lib.hid hb7
  have HTx := Lib.hid (Step.wrote ((HT.out.trans hW5).trans hW6) hw7 (by have := HSZ0.out; omega))
  have HV17 := Lib.hid (SL.weak (T := fun _ => False) (fun _ _ h => h.elim) ((Hhv1.out.keep (.of_step (hW5.trans hW6))).keep (Keeps.wrote hw7 hgN.1.1.2)))
  have HV27 := Lib.hid (SL.weak (T := fun _ => False) (fun _ _ h => h.elim) ((Hhv2.out.keep (.of_step (hW5.trans hW6))).keep (Keeps.wrote hw7 hgN.1.2)))
  have HS7 := Lib.hid (HS.out.trans HTx.out)
  have HB17 := Lib.hid (HB1.out.step HTx.out)
  have HB27 := Lib.hid (HB2.out.step HTx.out)
  have HB37 := Lib.hid (HB3.out.step HTx.out)
  have HBL7 := Lib.hid (SL.go HBL.out HTx.out)
  clear hW5 hg hgb hgN hW6 hb6 hb7 hw7 HT Hhv1 Hhv2 HSZ0 HS HB1 HB2 HB3 HBL HV HU HTx
  have HS := HS7
  have HB1 := HB17
  have HB2 := HB27
  have HB3 := HB37
  have HBL := HBL7
  clear HS7 HB17 HB27 HB37 HBL7
  have HT := Lib.hid (Step.refl w7)
  have hat0 := tent_parts (ready_ok HRD.out).2
  have hip := HIU.out
  obtain ⟨kk, hkk, hklt⟩ := rem_index (n := t.length) hip.1 (by omega)
  have HTP := Lib.hid hat0
  have hw1 : IntKind.i64.wrap i0 = i0 := by rw [IntKind.wrap_i64]; omega
  have hne : (t.length : Int) ≠ 0 := by omega
  have hne3 : ¬ t.length = 0 := by omega
  clear hat0 hip
  go_upto_region 5 with (fail)
  clear hw1 hne hne3 hkk
  have y0 := (HVP.out.step HT.out).cell 0
  have y1 := (HVP.out.step HT.out).cell 1
  simp only [List.getElem?_cons_zero, List.getElem?_cons_succ] at y0 y1
  go_wp2_with fail
  refine (Balanced_any (fun _ => False) l t (kk : Int) p _ _ _ (SL.go HV17.out HT.out) (SL.go HV27.out HT.out)).mono ?_
  rintro e wn ⟨vy, rfl, hvy, hSn⟩
  have HTi := Lib.hid (HT.out.trans hSn)
  clear hSn HT
  have HT := HTi
  clear HTi
  obtain ⟨yb, hyb⟩ : ∃ b, b = balR l t (kk : Int) p := ⟨_, rfl⟩
  obtain ⟨bc, hbc⟩ : ∃ b, b = balC l t (kk : Int) p := ⟨_, rfl⟩
  rw [← hyb] at hvy
  rw [← hbc]
  have HYB := Lib.hid (And.intro hyb hbc)
  obtain ⟨cb, rfl, hls⟩ := hvy.bal
  obtain ⟨py, ky, rfl⟩ := hls.form
  clear hyb hbc hvy y0 y1
  obtain ⟨wa, hwa⟩ : ∃ W, W = wn.alloc (.cells #[.int .i64 yb.whole, .slice py yb.parts.length ky] 31) := ⟨_, rfl⟩
  have HYV := Lib.hid (show Bx wa wn.heap.size [.int .i64 yb.whole, .slice py yb.parts.length ky] 31 by rw [hwa]; exact Bx.new wn [_, _] _)
  have hta : Step wn wa := by rw [hwa]; exact Step.alloc _ _
  have HYL := Lib.hid (show SL (fun _ => False) wa (.slice py yb.parts.length ky) yb.parts from (SL.keep (.of_step hta) hls.1).weak (fun _ _ h => h.elim))
  have HWA := Lib.hid hwa
  have HTa := Lib.hid (HT.out.trans hta)
  clear hwa hta hls HT
  go_upto_region 6 with (fail)
  rw [← HWA.out]
  clear HWA
  generalize wn.heap.size = gy at *
  have HS7 := Lib.hid (HS.out.trans HTa.out)
  have HB17 := Lib.hid (HB1.out.step HTa.out)
  have HB27 := Lib.hid (HB2.out.step HTa.out)
  have HB37 := Lib.hid (HB3.out.step HTa.out)
  have HBL7 := Lib.hid (SL.go HBL.out HTa.out)
  have HV1 := Lib.hid (SL.go HV17.out HTa.out)
  have HV2 := Lib.hid (SL.go HV27.out HTa.out)
  have HVP7 := Lib.hid (HVP.out.step HTa.out)
  clear HS HB1 HB2 HB3 HBL HV17 HV27 HVP HTa
  have HS := HS7
  have HB1 := HB17
  have HB2 := HB27
  have HB3 := HB37
  have HBL := HBL7
  have HVP := HVP7
  clear HS7 HB17 HB27 HB37 HBL7 HVP7
  have HT := Lib.hid (Step.refl wa)
  have htl := HTP.out.1
  obtain ⟨p2, c2, b2, o2, rfl, hc2, _, hp2, _⟩ := SL.go HV2.out (Step.refl _)
  obtain rfl := hp2 (by omega)
  have hs1 : IntKind.i64.wrap ((kk : Int) + 1) = (kk : Int) + 1 := by rw [IntKind.wrap_i64]; omega
  have htn : ((kk : Int) + 1).toNat = kk + 1 := by omega
  have hin : (0 : Int) ≤ (kk : Int) ∧ (kk : Int) ≤ (kk : Int) + 1 ∧ (kk : Int) + 1 ≤ (c2 : Int) := by omega
  have hni : ¬ c2 = kk := by omega
  have hni2 : ¬ c2 - kk = 0 := by omega
  have hsub := SL.sub HV2.out hklt (c2 - kk) (by omega)
  have hks : kk + 1 - kk = 1 := by omega
  have HSUB := Lib.hid (SL.go hsub (Step.refl _))
  clear hsub hp2
  refine Mk.wp_region_seqM (fun c d v a w h => by cases d <;> exact h) (Mk.kdOf [8] [(14, 40, .agg #[.int .i64 0, .int .i64 0])] [(7, 40, 1, #[.int .i64 p.x, .int .i64 p.y])]) [0, 0, 0, 0, 8, 30, 0, 64, 255, 511, 1023, 1023, 1023, 1023, 0, 18431, 53247, 122879, 262143] [0, 1, 2, 3, 4, 5, 6, 7, 8, 9, 10, 11, 12, 13, 14, 15, 16] [17, 18] (by kernel_rfl) (by kernel_rfl) (fun i T z hi hk => by simp only [List.mem_cons, List.not_mem_nil, or_false] at hi; rcases hi with rfl | rfl | rfl | rfl | rfl | rfl | rfl | rfl | rfl | rfl | rfl | rfl | rfl | rfl | rfl | rfl | rfl <;> simp [Mk.kdOf] at hk <;> (obtain ⟨rfl, rfl⟩ := hk; first | (show Option.bind _ _ = some _; kernel_rfl) | (refine ⟨_, rfl, fun _ _ => ?_⟩; go_simp))) ?_
  intro Wx hWx
  have HTx := Lib.hid (HT.out.trans hWx)
  clear hWx HT
  have HT := HTx
  clear HTx
  have y0 := (HVP.out.step HT.out).cell 0
  have y1 := (HVP.out.step HT.out).cell 1
  simp only [List.getElem?_cons_zero, List.getElem?_cons_succ] at y0 y1
  repeat (first | (refine Mk.run_off rfl rfl (by rfl) ?_; (try simp only [Act.put, List.setIfInBounds_toArray, List.set_cons_zero, List.set_cons_succ])) | (refine Mk.run_chain_off rfl rfl (by rfl) (Mk.K0_mono _) ?_; (try simp only [Act.put, List.setIfInBounds_toArray, List.set_cons_zero, List.set_cons_succ])) | ((refine Mk.run_want rfl rfl (by rfl) ⟨?_, fun W hW => ?_, ?_⟩; rotate_left; (· (have d0 := hW.keeps.cell id y0; have d1 := hW.keeps.cell id y1; go_simp; (try with_reducible rfl)))); (try simp only [Act.put, List.setIfInBounds_toArray, List.set_cons_zero, List.set_cons_succ])))
  clear y0 y1
  refine Mk.run_make rfl (by rfl) rfl (fun w => ?_) (fun W2 g hW2 hg hgb hgN => ?_)
  · go_simp
  have HVE := Lib.hid (vec1_of (S := fun _ => False) (show Bx W2 g [.int .i64 p.x, .int .i64 p.y] 40 from hg) id)
  have HTz := Lib.hid (HT.out.trans hW2)
  have Hv1z := Lib.hid (SL.go HV1.out HTz.out)
  have HSUBz := Lib.hid (SL.go HSUB.out HTz.out)
  clear HT HSUB hg hgb hgN hW2
  have HT := HTz
  have HSUB := HSUBz
  clear HTz HSUBz
  (try simp only [Act.put, List.setIfInBounds_toArray, List.set_cons_zero, List.set_cons_succ])
  refine Mk.run_chain rfl rfl (by rfl) (fun Wi hWi K' hK => ?_)
  have HTi := Lib.hid (HT.out.trans hWi)
  have h1i := Lib.hid (SL.go Hv1z.out hWi)
  have h2i := Lib.hid (SL.go HSUB.out hWi)
  have h3i := Lib.hid (SL.go HVE.out hWi)
  clear hWi HT Hv1z HSUB HVE
  go_simp
  refine (Weakest_any (fun _ => False) l [t[kk]] [p] _ _ _ _ h1i.out h2i.out h3i.out).mono ?_
  rintro e wn ⟨a, b, rfl, hz, hok, hSn⟩
  have HT := Lib.hid (HTi.out.trans (StepX.of hSn))
  have Hv1z := Lib.hid (SL.go h1i.out hSn)
  have HSUB := Lib.hid (SL.go h2i.out hSn)
  have HVE := Lib.hid (SL.go h3i.out hSn)
  clear HTi h1i h2i h3i
  have hbl := either_blown HRD.out HSD.out hklt HCN.out
  have HTW := Lib.hid (hok hbl).2
  rw [hbl]
  have HAZ := Lib.hid hz
  clear hz hok Hv1z HSUB HVE
  obtain ⟨wk1, hwk1⟩ : ∃ x, x = (weakR l [t[kk]] [p]).1 := ⟨_, rfl⟩
  obtain ⟨wk2, hwk2⟩ : ∃ x, x = (weakR l [t[kk]] [p]).2 := ⟨_, rfl⟩
  rw [← hwk1, ← hwk2]
  have HWK := Lib.hid (And.intro hwk1 hwk2)
  clear hwk1 hwk2 hbl
  refine hK _ _ (StepX.of hSn) ?_
  clear hSn
  (try simp only [Act.put, List.setIfInBounds_toArray, List.set_cons_zero, List.set_cons_succ])
  repeat (first | (refine Mk.run_off rfl rfl (by rfl) ?_; (try simp only [Act.put, List.setIfInBounds_toArray, List.set_cons_zero, List.set_cons_succ])) | (refine Mk.run_chain_off rfl rfl (by rfl) (Mk.K0_mono _) ?_; (try simp only [Act.put, List.setIfInBounds_toArray, List.set_cons_zero, List.set_cons_succ])) | ((refine Mk.run_want rfl rfl (by rfl) ⟨?_, fun W hW => ?_, ?_⟩; rotate_left; (· (skip; go_simp; (try with_reducible rfl)))); (try simp only [Act.put, List.setIfInBounds_toArray, List.set_cons_zero, List.set_cons_succ])))
  refine Mk.run_alloc rfl rfl (fun W5 gw hW5 hg hgb hgN => ?_)
  (try simp only [Act.put, List.setIfInBounds_toArray, List.set_cons_zero, List.set_cons_succ])
  repeat (first | (refine Mk.run_off rfl rfl (by rfl) ?_; (try simp only [Act.put, List.setIfInBounds_toArray, List.set_cons_zero, List.set_cons_succ])) | (refine Mk.run_chain_off rfl rfl (by rfl) (Mk.K0_mono _) ?_; (try simp only [Act.put, List.setIfInBounds_toArray, List.set_cons_zero, List.set_cons_succ])) | ((refine Mk.run_want rfl rfl (by rfl) ⟨?_, fun W hW => ?_, ?_⟩; rotate_left; (· (skip; go_simp; (try with_reducible rfl)))); (try simp only [Act.put, List.setIfInBounds_toArray, List.set_cons_zero, List.set_cons_succ])))
  refine Mk.run_end (L := [_, _]) rfl (fun W6 hW6 => ?_)
  have hb6 := Bx.step (w := W5) (cs := [_, _]) hg hW6
  refine wpl_store (v := .agg #[.int .i64 a, .int .i64 b]) rfl _ _ _ rfl rfl rfl hb6 (by kernel_rfl) (by simp [Value.cells]) (by simp [Value.cells, Value.oneCell']) [.int .i64 a, .int .i64 b] rfl (fun w8 hb8 hw8 => ?_)
  have HWV := Lib.hid hb8
  have HTx := Lib.hid (Step.wrote ((HT.out.trans hW5).trans hW6) hw8 hgb)
  clear hW5 hg hgb hgN hW6 hb6 hb8 hw8 HT hs1 htn hin hni hni2 hks
  go_upto_region 7 with (fail)
  have q1 := Lib.hid (HS.out.trans HTx.out)
  have q2 := Lib.hid (HB1.out.step HTx.out)
  have q3 := Lib.hid (HB2.out.step HTx.out)
  have q4 := Lib.hid (HB3.out.step HTx.out)
  have q5 := Lib.hid (SL.go HBL.out HTx.out)
  have q6 := Lib.hid (SL.go HV1.out HTx.out)
  have q7 := Lib.hid (SL.go HV2.out HTx.out)
  have q8 := Lib.hid (HVP.out.step HTx.out)
  have q9 := Lib.hid (HYV.out.step HTx.out)
  have q10 := Lib.hid (SL.go HYL.out HTx.out)
  clear HS HB1 HB2 HB3 HBL HV1 HV2 HVP HYV HYL HTx
  have HS := q1
  have HB1 := q2
  have HB2 := q3
  have HB3 := q4
  have HBL := q5
  have HV1 := q6
  have HV2 := q7
  have HVP := q8
  have HYV := q9
  have HYL := q10
  clear q1 q2 q3 q4 q5 q6 q7 q8 q9 q10
  have HT := Lib.hid (Step.refl w8)
  refine wp_region_seq (kdOf [6, 9, 11] []) [0, 0, 0, 0, 0, 16, 0, 0, 128, 448, 1008, 2047, 4095] [0, 1, 2, 3, 4, 5, 7, 8, 6, 9, 10, 11, 12] [] (by kernel_rfl) (by kernel_rfl) (fun i T z hi hk => by simp [kdOf] at hk <;> (try (split at hk <;> cases hk))) ?_
  intro Wx hWx
  have HTx := Lib.hid (HT.out.trans hWx)
  clear hWx HT
  have HT := HTx
  clear HTx
  have y0 := (HVP.out.step HT.out).cell 0
  have y1 := (HVP.out.step HT.out).cell 1
  have r0 := (HB3.out.step HT.out).cell 0
  have r1 := (HB3.out.step HT.out).cell 1
  have m0 := (HB2.out.step HT.out).cell 0
  have m1 := (HB2.out.step HT.out).cell 1
  simp only [List.getElem?_cons_zero, List.getElem?_cons_succ] at y0 y1 r0 r1 m0 m1
  repeat (first | (refine run_off rfl rfl (by rfl) ?_; (try simp only [Act.put, List.setIfInBounds_toArray, List.set_cons_zero, List.set_cons_succ])) | (refine run_chain_off rfl rfl (by rfl) (K0_mono _) ?_; (try simp only [Act.put, List.setIfInBounds_toArray, List.set_cons_zero, List.set_cons_succ])) | ((refine run_want rfl rfl (by rfl) ⟨?_, fun W hW => ?_, ?_⟩; rotate_left; (· (have d0 := hW.keeps.cell id y0; have d1 := hW.keeps.cell id y1; have d2 := hW.keeps.cell id r0; have d3 := hW.keeps.cell id r1; go_simp; (try with_reducible rfl)))); (try simp only [Act.put, List.setIfInBounds_toArray, List.set_cons_zero, List.set_cons_succ])))
  clear y0 y1 r0 r1 m0 m1
  refine run_chain rfl rfl (by rfl) (fun Wi hWi K' hK => ?_)
  have HTi := Lib.hid (HT.out.trans hWi)
  clear hWi HT
  go_simp
  refine hK _ _ (StepX.of (Step.alloc _ _)) ?_
  (try simp only [Act.put, List.setIfInBounds_toArray, List.set_cons_zero, List.set_cons_succ])
  have HOWN := Lib.hid (ownL_lit (α := Int) (fun _ => False) w8.heap.size 3 Wi HTi.out.size)
  have HT := Lib.hid (HTi.out.trans (Step.alloc Wi (.cells #[] 3)))
  obtain ⟨gl, hgl⟩ : ∃ g, g = Wi.heap.size := ⟨_, rfl⟩
  rw [← hgl] at HOWN ⊢
  clear hgl HTi hK
  generalize Wi.alloc (.cells #[] 3) = WA at *
  have y0 := (HVP.out.step HT.out).cell 0
  have y1 := (HVP.out.step HT.out).cell 1
  have r0 := (HB3.out.step HT.out).cell 0
  have r1 := (HB3.out.step HT.out).cell 1
  have m0 := (HB2.out.step HT.out).cell 0
  have m1 := (HB2.out.step HT.out).cell 1
  simp only [List.getElem?_cons_zero, List.getElem?_cons_succ] at y0 y1 r0 r1 m0 m1
  repeat (first | (refine run_off rfl rfl (by rfl) ?_; (try simp only [Act.put, List.setIfInBounds_toArray, List.set_cons_zero, List.set_cons_succ])) | (refine run_chain_off rfl rfl (by rfl) (K0_mono _) ?_; (try simp only [Act.put, List.setIfInBounds_toArray, List.set_cons_zero, List.set_cons_succ])) | ((refine run_want rfl rfl (by rfl) ⟨?_, fun W hW => ?_, ?_⟩; rotate_left; (· (have d0 := hW.keeps.cell id y0; have d1 := hW.keeps.cell id y1; have d2 := hW.keeps.cell id r0; have d3 := hW.keeps.cell id r1; go_simp; (try with_reducible rfl)))); (try simp only [Act.put, List.setIfInBounds_toArray, List.set_cons_zero, List.set_cons_succ])))
  clear y0 y1 r0 r1 m0 m1
  refine run_chain rfl rfl (by rfl) (fun Wi hWi K' hK => ?_)
  have hu6 := SL.flat (avoid (fun _ => False) (.slice (some ⟨gl, 0, none⟩) 0 0)) (SL.go HBL.out (HT.out.trans hWi))
  have hl12 := HL12.out
  refine wp_append_empty (α := Int) (S := fun _ => False) (base := w8.heap.size) eiInts gl _ _ rfl rfl rfl (HOWN.out.step hWi) hu6 bb.parts.length rfl (by simp only [maxLen]; omega) (by omega) (HT.out.trans hWi).size ?_
  intro p3 c3 w9 hown8 hs8
  have HPL := Lib.hid (hown8.slb (S := fun _ => False) fun _ _ h => h)
  have HT8 := Lib.hid (HT.out.trans (hWi.trans hs8))
  refine hK _ _ (StepX.of hs8) ?_
  clear hK hWi hu6 hown8 hs8 HOWN HT hl12
  (try simp only [Act.put, List.setIfInBounds_toArray, List.set_cons_zero, List.set_cons_succ])
  have HT := HT8
  clear HT8
  repeat (first | (refine run_off rfl rfl (by rfl) ?_; (try simp only [Act.put, List.setIfInBounds_toArray, List.set_cons_zero, List.set_cons_succ])) | (refine run_chain_off rfl rfl (by rfl) (K0_mono _) ?_; (try simp only [Act.put, List.setIfInBounds_toArray, List.set_cons_zero, List.set_cons_succ])) | ((refine run_want rfl rfl (by rfl) ⟨?_, fun W hW => ?_, ?_⟩; rotate_left; (· (skip; go_simp; (try with_reducible rfl)))); (try simp only [Act.put, List.setIfInBounds_toArray, List.set_cons_zero, List.set_cons_succ])))
  refine run_chain rfl rfl (by rfl) (fun Wi hWi K' hK => ?_)
  have HTi := Lib.hid (HT.out.trans hWi)
  have h3i := SL.go HPL.out hWi
  clear hWi HT HPL
  go_simp
  refine (ProveBalance_any (fun _ => False) l t (kk : Int) p bb _ _ _ _ (SL.go HV1.out HTi.out) (SL.go HV2.out HTi.out) ⟨_, rfl, _, rfl, h3i⟩).mono ?_
  rintro e wn ⟨rfl, hSn⟩
  obtain ⟨ot, hot⟩ : ∃ x, x = proveBalL l t (kk : Int) p bb := ⟨_, rfl⟩
  rw [← hot]
  have HOT := Lib.hid hot
  have HT := Lib.hid (HTi.out.trans (StepX.of hSn))
  clear HTi h3i hot
  refine hK _ _ (StepX.of hSn) ?_
  clear hSn
  (try simp only [Act.put, List.setIfInBounds_toArray, List.set_cons_zero, List.set_cons_succ])
  repeat (first | (refine run_off rfl rfl (by rfl) ?_; (try simp only [Act.put, List.setIfInBounds_toArray, List.set_cons_zero, List.set_cons_succ])) | (refine run_chain_off rfl rfl (by rfl) (K0_mono _) ?_; (try simp only [Act.put, List.setIfInBounds_toArray, List.set_cons_zero, List.set_cons_succ])) | ((refine run_want rfl rfl (by rfl) ⟨?_, fun W hW => ?_, ?_⟩; rotate_left; (· (skip; go_simp; (try with_reducible rfl)))); (try simp only [Act.put, List.setIfInBounds_toArray, List.set_cons_zero, List.set_cons_succ])))
  refine run_end (L := []) rfl (fun W6 hW6 => ?_)
  have HT6 := Lib.hid (HT.out.trans hW6)
  clear hW6 HT
  have HT := HT6
  clear HT6
  go_upto_region 8 with (fail)
  refine wp_region_seq (kdOf [5, 6] []) [0, 0, 0, 0, 0, 16, 63, 127] [0, 1, 2, 3, 4, 5, 6, 7] [] (by kernel_rfl) (by kernel_rfl) (fun i T z hi hk => by simp [kdOf] at hk <;> (try (split at hk <;> cases hk))) ?_
  intro Wx hWx
  have HTx := Lib.hid (HT.out.trans hWx)
  clear hWx HT
  have HT := HTx
  clear HTx
  have y0 := (HVP.out.step HT.out).cell 0
  have y1 := (HVP.out.step HT.out).cell 1
  have r0 := (HB3.out.step HT.out).cell 0
  have r1 := (HB3.out.step HT.out).cell 1
  have m0 := (HB2.out.step HT.out).cell 0
  have m1 := (HB2.out.step HT.out).cell 1
  simp only [List.getElem?_cons_zero, List.getElem?_cons_succ] at y0 y1 r0 r1 m0 m1
  repeat (first | (refine run_off rfl rfl (by rfl) ?_; (try simp only [Act.put, List.setIfInBounds_toArray, List.set_cons_zero, List.set_cons_succ])) | (refine run_chain_off rfl rfl (by rfl) (K0_mono _) ?_; (try simp only [Act.put, List.setIfInBounds_toArray, List.set_cons_zero, List.set_cons_succ])) | ((refine run_want rfl rfl (by rfl) ⟨?_, fun W hW => ?_, ?_⟩; rotate_left; (· (have d0 := hW.keeps.cell id y0; have d1 := hW.keeps.cell id y1; have d2 := hW.keeps.cell id m0; have d3 := hW.keeps.cell id m1; go_simp; (try with_reducible rfl)))); (try simp only [Act.put, List.setIfInBounds_toArray, List.set_cons_zero, List.set_cons_succ])))
  clear y0 y1 r0 r1 m0 m1
  refine run_chain rfl rfl (by rfl) (fun Wi hWi K' hK => ?_)
  have HTi := Lib.hid (HT.out.trans hWi)
  have HZW := Lib.hid HTi.out.size
  clear hWi HT
  go_simp
  refine (Vector_any way _).mono ?_
  rintro e wn ⟨rfl, hSn⟩
  have HT := Lib.hid (HTi.out.trans (StepX.of hSn))
  clear HTi
  refine hK _ _ (StepX.of hSn) ?_
  clear hSn
  (try simp only [Act.put, List.setIfInBounds_toArray, List.set_cons_zero, List.set_cons_succ])
  have y0 := (HVP.out.step HT.out).cell 0
  have y1 := (HVP.out.step HT.out).cell 1
  have r0 := (HB3.out.step HT.out).cell 0
  have r1 := (HB3.out.step HT.out).cell 1
  have m0 := (HB2.out.step HT.out).cell 0
  have m1 := (HB2.out.step HT.out).cell 1
  simp only [List.getElem?_cons_zero, List.getElem?_cons_succ] at y0 y1 r0 r1 m0 m1
  repeat (first | (refine run_off rfl rfl (by rfl) ?_; (try simp only [Act.put, List.setIfInBounds_toArray, List.set_cons_zero, List.set_cons_succ])) | (refine run_chain_off rfl rfl (by rfl) (K0_mono _) ?_; (try simp only [Act.put, List.setIfInBounds_toArray, List.set_cons_zero, List.set_cons_succ])) | ((refine run_want rfl rfl (by rfl) ⟨?_, fun W hW => ?_, ?_⟩; rotate_left; (· (have d0 := hW.keeps.cell id y0; have d1 := hW.keeps.cell id y1; have d2 := hW.keeps.cell id m0; have d3 := hW.keeps.cell id m1; go_simp; (try with_reducible rfl)))); (try simp only [Act.put, List.setIfInBounds_toArray, List.set_cons_zero, List.set_cons_succ])))
  clear y0 y1 r0 r1 m0 m1
  refine run_chain rfl rfl (by rfl) (fun Wi hWi K' hK => ?_)
  have HTi := Lib.hid (HT.out.trans hWi)
  have HZW := Lib.hid HTi.out.size
  clear hWi HT
  go_simp
  refine (ProveWeak_any (fun _ => False) l t (kk : Int) p way _ _ _ (SL.go HV1.out HTi.out) (SL.go HV2.out HTi.out)).mono ?_
  rintro e wn ⟨rfl, hSn⟩
  have HT := Lib.hid (HTi.out.trans (StepX.of hSn))
  clear HTi
  obtain ⟨lm, hlm⟩ : ∃ x, x = proveWeakL l t (kk : Int) p way := ⟨_, rfl⟩
  rw [← hlm]
  have HLM := Lib.hid hlm
  clear hlm
  refine hK _ _ (StepX.of hSn) ?_
  clear hSn
  (try simp only [Act.put, List.setIfInBounds_toArray, List.set_cons_zero, List.set_cons_succ])
  repeat (first | (refine run_off rfl rfl (by rfl) ?_; (try simp only [Act.put, List.setIfInBounds_toArray, List.set_cons_zero, List.set_cons_succ])) | (refine run_chain_off rfl rfl (by rfl) (K0_mono _) ?_; (try simp only [Act.put, List.setIfInBounds_toArray, List.set_cons_zero, List.set_cons_succ])) | ((refine run_want rfl rfl (by rfl) ⟨?_, fun W hW => ?_, ?_⟩; rotate_left; (· (skip; go_simp; (try with_reducible rfl)))); (try simp only [Act.put, List.setIfInBounds_toArray, List.set_cons_zero, List.set_cons_succ])))
  refine run_end (L := []) rfl (fun W6 hW6 => ?_)
  have HT6 := Lib.hid (HT.out.trans hW6)
  clear hW6 HT
  have HT := HT6
  clear HT6
  go_upto_region 11 with (fail)
  cases qb : balL (headF l t (kk : Int)) (headP t (kk : Int) p) with
  | true =>
    obtain ⟨f1, f2, f3, f4⟩ := either_is HRD.out HSD.out hklt HCN.out qb
    have hyb := HYB.out.1
    have hbc := HYB.out.2.trans f1
    rw [← hyb] at f2
    have hk1 := HWK.out.1
    have hk2 := HWK.out.2
    rw [f3] at hk1 hk2
    have hlm := HLM.out.trans (f4 way)
    dsimp only at hk1 hk2
    subst hbc hk1 hk2 hlm
    have HF2 := Lib.hid f2
    clear f1 f2 f3 f4 hyb qb
    have y0 := (HVP.out.step HT.out).cell 0
    have y1 := (HVP.out.step HT.out).cell 1
    have r0 := (HYV.out.step HT.out).cell 0
    have r1 := (HYV.out.step HT.out).cell 1
    simp only [List.getElem?_cons_zero, List.getElem?_cons_succ] at y0 y1 r0 r1
    have h3i := SL.go HYL.out HT.out
    go_wp2_with fail
    refine (ProveBalance_any (fun _ => False) l t (kk : Int) p yb _ _ _ _ (SL.go HV1.out HT.out) (SL.go HV2.out HT.out) ⟨_, rfl, _, rfl, h3i⟩).mono ?_
    rintro e wn ⟨rfl, hSn⟩
    have HTi := Lib.hid (HT.out.trans hSn)
    clear hSn HT
    have HT := HTi
    clear HTi
    rw [HF2.out]
    clear h3i y0 y1 r0 r1
    go_wp2_with fail
    refine (wakes_any _).mono ?_
    rintro e wz ⟨rfl, hSz⟩
    go_wp2
    go_ret
    exact ⟨rfl, HS.out.trans (HT.out.trans hSz)⟩
  | false =>
    obtain ⟨f1, f2, f3, f4⟩ := either_not HRD.out HSD.out hklt HCN.out qb
    have hbc := HYB.out.2.trans f1
    have hk1 := HWK.out.1
    have hk2 := HWK.out.2
    rw [f2] at hk1 hk2
    have hot := HOT.out.trans (f4 bb)
    dsimp only at hk1 hk2
    subst hbc hk1 hk2 hot
    have HF3 := Lib.hid (f3 a b HTW.out)
    clear f1 f2 f3 f4 qb
    have y0 := (HVP.out.step HT.out).cell 0
    have y1 := (HVP.out.step HT.out).cell 1
    have r0 := (HWV.out.step HT.out).cell 0
    have r1 := (HWV.out.step HT.out).cell 1
    simp only [List.getElem?_cons_zero, List.getElem?_cons_succ] at y0 y1 r0 r1
    go_wp2_with fail
    refine (ProveWeak_any (fun _ => False) l t (kk : Int) p ⟨a, b⟩ _ _ _ (SL.go HV1.out HT.out) (SL.go HV2.out HT.out)).mono ?_
    rintro e wn ⟨rfl, hSn⟩
    have HTi := Lib.hid (HT.out.trans hSn)
    clear hSn HT
    have HT := HTi
    clear HTi
    rw [HF3.out]
    clear y0 y1 r0 r1
    go_wp2_with fail
    refine (wakes_any _).mono ?_
    rintro e wz ⟨rfl, hSz⟩
    go_wp2
    go_ret
    exact ⟨rfl, HS.out.trans (HT.out.trans hSz)⟩
end Go.Proofs.Ytdcjbbeoocldeaa
/- CanvasEither: of every input the law answers true, and its arguments read as they did. -/
namespace Go.Proofs.Ytdcjbbeoocldeaa.either
open Go.ChangeShapes Go.WideShapes Go.ChangeAt Go.RowKit Go.BT
set_option linter.unusedVariables false
set_option linter.unusedSimpArgs false

set_option maxRecDepth 100000 in
theorem lifted (os : Os) (started : os.Started) (H : Type) (enc : TypeId × Value → H) :
    ReturnsInHanded {} Try.checked os 11 .any (Rows.canvasEitherSpec.pre6 enc Try.prog Try.f11 Rows.canvasEitherRow.domain false) (Rows.canvasEitherSpec.post enc Try.prog Try.f11 false true false false) := by
  refine returnsInHanded_of_change (C := Try.checked) own started (by kernel_rfl) Try.func11
    (ChangeSpec.witness6 (enc := enc) (C := Try.checked) false ⟨#[], #[.slice none 0 0, .slice none 0 0, .int .u8 0, .agg #[.int .i64 0, .int .i64 0], .agg #[.int .i64 0, .int .i64 0], .agg #[.int .i64 0, .slice none 0 0]], []⟩ 8 (by kernel_rfl) (by kernel_rfl) (by kernel_rfl) (by kernel_rfl)) ?_
  intro W base args ds gs before hval0 hW hcnd _
  have hval : ∀ (j : Nat) t v, Try.f11.params[j]? = some t → args[j]? = some v → Value.okWide Try.prog W .any base t v := hval0
  have hW' := hW
  obtain ⟨p, q, hA0, hV, rfl, hfz, hnd⟩ := hW
  have hA : DataW.TrodAll enc Try.prog W 0 (fun _ => true) true Try.f11.params.toList args.toList ds p := hA0
  have hAk := hA
  rw [Try.params11] at hA hval
  obtain ⟨v0, vs0, d0, ds0, p0, q0, hargs, rfl, rfl, h0, r0⟩ := trodAll_cons hA
  obtain ⟨v1, vs1, d1, ds1, p1, q1, rfl, rfl, rfl, h1, r1⟩ := trodAll_cons r0
  obtain ⟨v2, vs2, d2, ds2, p2, q2, rfl, rfl, rfl, h2, r2⟩ := trodAll_cons r1
  obtain ⟨v3, vs3, d3, ds3, p3, q3, rfl, rfl, rfl, h3, r3⟩ := trodAll_cons r2
  obtain ⟨v4, vs4, d4, ds4, p4, q4, rfl, rfl, rfl, h4, r4⟩ := trodAll_cons r3
  obtain ⟨v5, vs5, d5, ds5, p5, q5, rfl, rfl, rfl, h5, r5⟩ := trodAll_cons r4
  obtain ⟨rfl, rfl, rfl⟩ := trodAll_nil r5
  obtain rfl : args = #[v0, v1, v2, v3, v4, v5] := by cases args; simp_all
  obtain ⟨rfl, rfl⟩ := trodVars_none hV
  obtain ⟨a0, hh0⟩ := sl_of opens_tests Try.underlying22 (hval 0 22 v0 rfl rfl) h0
  obtain ⟨a1, hh1⟩ := sl_of opens_tent Try.underlying24 (hval 1 24 v1 rfl rfl) h1
  obtain ⟨a2, rfl, rfl, rfl, w2⟩ := open_int Try.underlying5 (hval 2 5 v2 rfl rfl) h2
  obtain ⟨a3, hh3⟩ := av_of opens_Vec Try.underlying26 (hval 3 26 v3 rfl rfl) h3
  obtain rfl := hh3.vec
  obtain ⟨a4, hh4⟩ := av_of opens_Vec Try.underlying26 (hval 4 26 v4 rfl rfl) h4
  obtain rfl := hh4.vec
  obtain ⟨a5, hh5⟩ := av_of opens_Bal Try.underlying52 (hval 5 52 v5 rfl rfl) h5
  clear hA0 hval0
  refine (CanvasEither_any a0 a1 a2 a3 a4 a5 v0 v1 v5 W hh0 hh1 w2 hh5).mono fun e W' ⟨he, hg⟩ => ?_
  subst he
  have hlt := hW'.lt
  refine ⟨_, rfl, post_of_below (pv := []) hW' (fun _ _ _ => (trodAll_cons_mk (shut_bool Try.underlying4 _) trodAll_mk0)) (fun sp hs => all_stays laid hg.below (fun t ht => ?_) hAk (fun x hx => hlt x (by simpa using hx)) (fun x hx => hs x (by simpa using hx))) (fun _ _ => rfl) rfl hg.below (ok_one (by kernel_rfl) rfl (okWide_bool_mk Try.underlying4 _))⟩
  rw [Try.params11] at ht
  have : ∀ t ∈ [22, 24, 5, 26, 26, 52], Try.prog.readableRec t = true ∧ t < Try.prog.types.size := by
    intro t ht
    simp only [List.mem_cons, List.not_mem_nil, or_false] at ht
    rcases ht with rfl | rfl | rfl | rfl | rfl | rfl <;> exact ⟨by kernel_rfl, of_decide_eq_true (by kernel_rfl)⟩
  exact this t ht

theorem over : Rows.canvasEitherRow.holds Try.pinned (OpenSpec.ofChange Rows.canvasEitherSpec) :=
  OpenClaim.holds_of_wide 11 Try.f11 rfl rfl rfl rfl rfl rfl rfl ⟨rfl, rfl, rfl, rfl, rfl⟩ rfl rfl rfl rfl rfl (by kernel_rfl) Try.func11 (by kernel_rfl)
    (of_decide_eq_true (by kernel_rfl)) (by unfold Func.isWrapper; first | (rw [if_pos (by decide +kernel)]; kernel_rfl) | (rw [if_neg (by decide +kernel)]; exact ⟨rfl, rfl⟩))
    (fun os started H enc _ => lifted os started H enc)
theorem proved : Rows.CanvasEitherSaid := over
end Go.Proofs.Ytdcjbbeoocldeaa.either
