/- CanvasUpto holds of every input, and its arguments read afterwards as they did. -/
import Derived.Test.YtdcjbbeoocldeaaMk
import Derived.Test.YtdcjbbeoocldeaaMn
import Derived.Test.YtdcjbbeoocldeaaMu
import Derived.Test.YtdcjbbeoocldeaaMw
import Derived.Test.YtdcjbbeoocldeaaRows
/- Walks: the law CanvasUpto: it answers true. -/
namespace Go.Proofs.Ytdcjbbeoocldeaa
set_option linter.unusedSimpArgs false
set_option linter.unusedVariables false
open Go.RowKit Go.BT

theorem i8_of {n : Int} (h : (Lit.int .i8 n).wf = true) : -128 ≤ n ∧ n ≤ 127 := by
  have h1 : IntKind.i8.min = -128 := rfl
  have h2 : IntKind.i8.max = 127 := rfl
  simp [Lit.wf] at h; omega
theorem u16_of {n : Int} (h : (Lit.int .u16 n).wf = true) : 0 ≤ n ∧ n ≤ 65535 := by
  have h1 : IntKind.u16.min = 0 := rfl
  have h2 : IntKind.u16.max = 65535 := rfl
  simp [Lit.wf] at h; omega
theorem tmod11 (x : Int) : -10 ≤ x.tmod 11 ∧ x.tmod 11 ≤ 10 := by
  have h1 := Int.tmod_lt_of_pos x (show (0 : Int) < 11 by decide)
  rcases Int.le_total 0 x with q | q
  · have := Int.tmod_nonneg (11 : Int) q; omega
  · obtain ⟨y, rfl⟩ : ∃ y, x = -y := ⟨-x, by omega⟩
    have h2 := Int.tmod_lt_of_pos y (show (0 : Int) < 11 by decide)
    have h3 := Int.tmod_nonneg (11 : Int) (show 0 ≤ y by omega)
    rw [Int.neg_tmod] at h1 ⊢; omega
theorem times_comm (v : Vec) (a b : Int) : timesV (timesV v a) b = timesV (timesV v b) a := by
  unfold timesV
  dsimp only
  congr 1 <;> grind
/-- A part of a list, as a slice of a slice. -/
theorem _root_.Go.BT.SL.sub {α : Type} [Rep α] {S : Nat → Prop} {w : World} {b o n c : Nat} {l : List α} (h : SL S w (.slice (some ⟨b, o, none⟩) n c) l) {i : Nat} (hi : i < n) (c' : Nat) (hc' : 1 ≤ c') : SL S w (.slice (some ⟨b, o + i * Rep.k α, none⟩) 1 c') [l[i]'(by obtain ⟨_, _, _, _, hv, _⟩ := h; injection hv with _ e _; omega)] := by
  obtain ⟨p', c2, b', o', hv, hc, hm, hp, ha⟩ := h
  injection hv with e1 e2 e3
  have hb := hp (by omega)
  rw [← e1] at hb
  injection hb with hb
  injection hb with hb1 hb2
  subst hb1 hb2
  refine ⟨_, c', b, o + i * Rep.k α, rfl, hc', by simp, fun _ => rfl, fun j hj => ?_⟩
  obtain rfl : j = 0 := by simpa using hj
  have := ha i (by omega)
  simpa using this
theorem stand_one {l : List Tst} {h : Head} {wind : List Vec} : standB l [h] wind = wind.all fun c => balL (forcesL l h.guys) (timesV c h.area) := by
  unfold standB standH; simp
theorem ready_one {l : List Tst} {t : List Head} (hr : readyC l t = 0) {i : Nat} (hi : i < t.length) : readyC l [t[i]] = 0 := by
  have ht := (ready_ok hr).2
  have h1 : testsC l = 0 := by unfold readyC at hr; split at hr <;> assumption
  have hh := all_get (tent_parts ht).2 hi
  unfold readyC
  rw [if_pos h1]
  unfold tentC
  rw [if_pos]
  unfold tentB
  simp [withinB, hh]
theorem blown_one {l : List Tst} {t : List Head} (hr : readyC l t = 0) (hs : soundC l = 0) {i : Nat} (hi : i < t.length) {wind : List Vec} (hw : windB wind = true) : blownC l [t[i]] wind = 0 := by
  unfold blownC
  rw [if_pos (ready_one hr hi), if_pos hw, hs]
theorem small_mul {k x : Int} (h0 : 0 ≤ k) (h1 : k ≤ 1000) (h2 : -10 ≤ x) (h3 : x ≤ 10) : -10000 ≤ k * x ∧ k * x ≤ 10000 := by
  have a := Int.mul_le_mul_of_nonneg_left h3 h0
  have b := Int.mul_le_mul_of_nonneg_left h2 h0
  omega
theorem upto_stands {l : List Tst} {t : List Head} (hr : readyC l t = 0) (hs : soundC l = 0) {i : Nat} (hi : i < t.length) {wx wy k n : Int} (hx : -10 ≤ wx ∧ wx ≤ 10) (hy : -10 ≤ wy ∧ wy ≤ 10)
    (hk : IsReach (forcesL l (headAt t i).guys) (timesV ⟨wx, wy⟩ (headAt t i).area) k) (h9 : 0 ≤ k ∧ k ≤ 999) (hn : 0 ≤ n ∧ n ≤ k) :
    standsL l [t[i]] [⟨k * wx, k * wy⟩, ⟨n * wx, n * wy⟩] = true ∧ standsL l [t[i]] [⟨(k + 1) * wx, (k + 1) * wy⟩] = false := by
  have hin : ∀ j, 0 ≤ j → j ≤ 1000 → inV 10000 (⟨j * wx, j * wy⟩ : Vec) := fun j h0 h1 => ⟨small_mul h0 h1 hx.1 hx.2, small_mul h0 h1 hy.1 hy.2⟩
  rw [headAt_eq hi] at hk
  obtain ⟨_, _, hk3, hk4⟩ := hk
  have e : ∀ j, timesV (⟨j * wx, j * wy⟩ : Vec) t[i].area = timesV (timesV ⟨wx, wy⟩ t[i].area) j := fun j => times_comm ⟨wx, wy⟩ j t[i].area
  constructor
  · unfold standsL
    rw [blown_one hr hs hi (windB_of (by simp) (by simp) fun v hv => by
      rcases List.mem_cons.1 hv with rfl | hv
      · exact hin k (by omega) (by omega)
      · rw [List.mem_singleton.1 hv]; exact hin n (by omega) (by omega)), stand_one]
    simp only [List.all_cons, List.all_nil, e]
    rw [hk3, bal_mono hk3 hn.1 hn.2]; rfl
  · unfold standsL
    rw [stand_one]
    simp only [List.all_cons, List.all_nil, e]
    rw [hk4 (by omega)]; simp
theorem vec2_of {S : Nat → Prop} {w : World} {g : Nat} {T : TypeId} {a b c d : Int} (h : Bx w g [.int .i64 a, .int .i64 b, .int .i64 c, .int .i64 d] T) (hs : ¬ S g) :
    SL S w (.slice (some ⟨g, 0, none⟩) 2 2) [(⟨a, b⟩ : Vec), ⟨c, d⟩] :=
  SL.bx (l := [(⟨a, b⟩ : Vec), ⟨c, d⟩]) h hs 2 (by simp) (by simp) fun i hi => match i, hi with
    | 0, _ => rfl
    | 1, _ => rfl
theorem vec1_of {S : Nat → Prop} {w : World} {g : Nat} {T : TypeId} {a b : Int} (h : Bx w g [.int .i64 a, .int .i64 b] T) (hs : ¬ S g) :
    SL S w (.slice (some ⟨g, 0, none⟩) 1 1) [(⟨a, b⟩ : Vec)] :=
  SL.bx (l := [(⟨a, b⟩ : Vec)]) h hs 1 (by simp) (by simp) fun i hi => match i, hi with
    | 0, _ => rfl
set_option maxRecDepth 100000 in
set_option maxHeartbeats 8000000 in
theorem CanvasUpto_any (l : List Tst) (t : List Head) (i0 x0 y0 p0 : Int) (v u : Value) (w : World) (hv : SL (fun _ => False) w v l) (hu : SL (fun _ => False) w u t) (hi : (Lit.int .u8 i0).wf = true) (hx : (Lit.int .i8 x0).wf = true) (hy : (Lit.int .i8 y0).wf = true) (hp : (Lit.int .u16 p0).wf = true) :
    Calls Try.prog 10 #[v, u, .int .u8 i0, .int .i8 x0, .int .i8 y0, .int .u16 p0] w fun e w' => e = .returned (.bool true) ∧ Step w w' := by
  have HIP := Lib.hid (And.intro (u8_of hi) (u16_of hp))
  have hx1 := i8_of hx
  have hy1 := i8_of hy
  have hw1 : IntKind.i64.wrap x0 = x0 := by rw [IntKind.wrap_i64]; omega
  have hw2 : IntKind.i64.wrap y0 = y0 := by rw [IntKind.wrap_i64]; omega
  obtain ⟨wx, hwx⟩ : ∃ n, n = x0.tmod 11 := ⟨_, rfl⟩
  obtain ⟨wy, hwy⟩ : ∃ n, n = y0.tmod 11 := ⟨_, rfl⟩
  have hm1 : x0.tmod 11 = wx := hwx.symm
  have hm2 : y0.tmod 11 = wy := hwy.symm
  have hb1 := tmod11 x0
  have hb2 := tmod11 y0
  rw [hm1] at hb1
  rw [hm2] at hb2
  have HXY := Lib.hid (And.intro hb1 hb2)
  have hw3 : IntKind.i64.wrap wx = wx := by rw [IntKind.wrap_i64]; omega
  have hw4 : IntKind.i64.wrap wy = wy := by rw [IntKind.wrap_i64]; omega
  clear hi hx hy hp hx1 hy1 hb1 hb2 hwx hwy
  obtain ⟨W0, hW0⟩ : ∃ W, W = w.alloc (.cells #[.int .i64 wx, .int .i64 wy] 40) := ⟨_, rfl⟩
  have HB := Lib.hid (show Bx W0 w.heap.size [.int .i64 wx, .int .i64 wy] 40 by subst hW0; exact Bx.new w [_, _] _)
  have hS : Step w W0 := by subst hW0; exact Step.alloc _ _
  have HV := Lib.hid (SL.go hv hS)
  have HU := Lib.hid (SL.go hu hS)
  have HS := Lib.hid hS
  have HT := Lib.hid (Step.refl W0)
  have HW := Lib.hid hW0
  obtain ⟨pv, cv, rfl⟩ := hv.form
  obtain ⟨pu, cu, rfl⟩ := hu.form
  clear hS hW0 hv hu
  go_enter Try.func10, Try.ntmps10
  go_upto_region 2 with (fail)
  rw [← HW.out]
  clear hw1 hw2 hw3 hw4 hm1 hm2
  go_wp2_with fail
  refine (Few_any (fun _ => False) l t _ _ _ (HV.out.keep (.of_step HT.out)) (HU.out.keep (.of_step HT.out))).mono ?_
  rintro e wn ⟨rfl, hSn⟩
  have HTi := Lib.hid (HT.out.trans hSn)
  clear hSn HT
  have HT := HTi
  clear HTi
  cases qf : few l t with
  | false =>
    clear qf
    go_wp2_with fail
    refine (wakes_any _).mono ?_
    rintro e wz ⟨rfl, hSz⟩
    go_wp2
    go_ret
    exact ⟨rfl, HS.out.trans (HT.out.trans hSz)⟩
  | true =>
  have HFEW := Lib.hid (few_of qf)
  clear qf
  go_wp2_with fail
  refine (Fault_any (fun _ => False) l t _ _ _ (SL.go HV.out HT.out) (SL.go HU.out HT.out)).mono ?_
  rintro e wn ⟨rfl, hSn⟩
  have HTi := Lib.hid (HT.out.trans hSn)
  clear hSn HT
  have HT := HTi
  clear HTi
  obtain ⟨c, hc⟩ : ∃ c, c = readyC l t := ⟨_, rfl⟩
  rw [← hc]
  by_cases h0 : c = 0
  rotate_left
  · have hd : (c != 0) = true := by simpa using h0
    clear h0 hc
    go_wp2_with fail
    refine (wakes_any _).mono ?_
    rintro e wz ⟨rfl, hSz⟩
    go_wp2
    go_ret
    exact ⟨rfl, HS.out.trans (HT.out.trans hSz)⟩
  subst h0
  have HRD := Lib.hid hc.symm
  clear hc
  go_wp2_with fail
  refine (clashing_any (fun _ => False) l _ _ (SL.go HV.out HT.out) (ready_ok HRD.out).1).mono ?_
  rintro e wn ⟨rfl, hSn⟩
  have HTi := Lib.hid (HT.out.trans hSn)
  clear hSn HT
  have HT := HTi
  clear HTi
  obtain ⟨c, hc⟩ : ∃ c, c = soundC l := ⟨_, rfl⟩
  rw [← hc]
  by_cases h0 : c = 0
  rotate_left
  · have hd : (c != 0) = true := by simpa using h0
    clear h0 hc
    go_wp2_with fail
    refine (wakes_any _).mono ?_
    rintro e wz ⟨rfl, hSz⟩
    go_wp2
    go_ret
    exact ⟨rfl, HS.out.trans (HT.out.trans hSz)⟩
  subst h0
  have HSD := Lib.hid hc.symm
  clear hc
  have n0 := (HB.out.step HT.out).cell 0
  have n1 := (HB.out.step HT.out).cell 1
  simp only [List.getElem?_cons_zero, List.getElem?_cons_succ] at n0 n1
  have HWY := Lib.hid (And.intro (show wayB ⟨wx, wy⟩ = (cornerB ⟨wx, wy⟩ && !veq wx wy 0 0) from rfl) (show cornerB ⟨wx, wy⟩ = true from in_corner (by have := HXY.out; unfold inV; dsimp only; omega)))
  by_cases hx : wx = 0
  · by_cases hy : wy = 0
    · skip
      go_wp2_with fail
      refine (wakes_any _).mono ?_
      rintro e wz ⟨rfl, hSz⟩
      go_wp2
      go_ret
      exact ⟨rfl, HS.out.trans (HT.out.trans hSz)⟩
    · have HWB := Lib.hid (show wayB ⟨wx, wy⟩ = true by rw [HWY.out.1, HWY.out.2]; unfold veq; simp [hy])
      go_upto_region 4 with (fail)
      clear hx hy n0 n1 HWY
      have hat0 := tent_parts (ready_ok HRD.out).2
      have hip := HIP.out
      obtain ⟨kk, hkk, hklt⟩ := rem_index (n := t.length) hip.1.1 (by omega)
      have HTP := Lib.hid hat0
      have HKL := Lib.hid hklt
      have hw1 : IntKind.i64.wrap i0 = i0 := by rw [IntKind.wrap_i64]; omega
      have hne : (t.length : Int) ≠ 0 := by omega
      have hne3 : ¬ t.length = 0 := by omega
      have HAT := Lib.hid (show atC l t (kk : Int) (wayB ⟨wx, wy⟩) = 0 by
        unfold atC
        rw [if_pos HRD.out, HWB.out, if_pos, HSD.out]
        simp [withinB]; omega)
      clear hat0 hip
      go_upto_region 5 with (fail)
      clear hw1 hne hne3 hkk
      refine wp_region_seq (kdOf [1, 3, 6] []) [0, 1, 0, 7, 0, 0, 63, 127, 255, 255, 511, 2047] [0, 2, 4, 5, 1, 3, 6, 7, 8, 9, 10, 11] [] (by kernel_rfl) (by kernel_rfl) (fun i T z hi hk => by simp [kdOf] at hk <;> (try (split at hk <;> cases hk))) ?_
      intro Wx hWx
      have HTx := Lib.hid (HT.out.trans hWx)
      clear hWx HT
      have HT := HTx
      clear HTx
      have n0 := (HB.out.step HT.out).cell 0
      have n1 := (HB.out.step HT.out).cell 1
      simp only [List.getElem?_cons_zero, List.getElem?_cons_succ] at n0 n1
      repeat (first | (refine run_off rfl rfl (by rfl) ?_; (try simp only [Act.put, List.setIfInBounds_toArray, List.set_cons_zero, List.set_cons_succ])) | (refine run_chain_off rfl rfl (by rfl) (K0_mono _) ?_; (try simp only [Act.put, List.setIfInBounds_toArray, List.set_cons_zero, List.set_cons_succ])) | ((refine run_want rfl rfl (by rfl) ⟨?_, fun W hW => ?_, ?_⟩; rotate_left; (· (have d0 := hW.keeps.cell id n0; have d1 := hW.keeps.cell id n1; go_simp; (try with_reducible rfl)))); (try simp only [Act.put, List.setIfInBounds_toArray, List.set_cons_zero, List.set_cons_succ])))
      clear n0 n1
      refine run_chain rfl rfl (by rfl) (fun Wi hWi K' hK => ?_)
      have HTi := Lib.hid (HT.out.trans hWi)
      have HZW := Lib.hid HTi.out.size
      clear hWi HT
      go_simp
      refine (Tests_any _ l _ _ (SL.go HV.out HTi.out) (by have := HFEW.out.1; omega)).mono ?_
      rintro e wn ⟨v1, rfl, hv1, hSn⟩
      have HT := Lib.hid (HTi.out.trans (StepX.of hSn))
      clear HTi
      have Hhv1 := Lib.hid (SL.go hv1 (Step.refl _))
      clear hv1
      refine hK _ _ (StepX.of hSn) ?_
      clear hSn
      (try simp only [Act.put, List.setIfInBounds_toArray, List.set_cons_zero, List.set_cons_succ])
      repeat (first | (refine run_off rfl rfl (by rfl) ?_; (try simp only [Act.put, List.setIfInBounds_toArray, List.set_cons_zero, List.set_cons_succ])) | (refine run_chain_off rfl rfl (by rfl) (K0_mono _) ?_; (try simp only [Act.put, List.setIfInBounds_toArray, List.set_cons_zero, List.set_cons_succ])) | ((refine run_want rfl rfl (by rfl) ⟨?_, fun W hW => ?_, ?_⟩; rotate_left; (· (skip; go_simp; (try with_reducible rfl)))); (try simp only [Act.put, List.setIfInBounds_toArray, List.set_cons_zero, List.set_cons_succ])))
      refine run_chain rfl rfl (by rfl) (fun Wi hWi K' hK => ?_)
      have HTi := Lib.hid (HT.out.trans hWi)
      have h1i := Lib.hid (SL.go Hhv1.out hWi)
      clear hWi HT Hhv1
      go_simp
      refine (Tent_any _ t _ _ (SL.go HU.out HTi.out) HFEW.out.2).mono ?_
      rintro e wn ⟨v2, rfl, hv2, hSn⟩
      have HT := Lib.hid (HTi.out.trans (StepX.of hSn))
      have Hhv1 := Lib.hid (SL.go h1i.out hSn)
      have HZI := Lib.hid HTi.out.size
      clear HTi h1i
      have Hhv2 := Lib.hid (SL.go hv2 (Step.refl _))
      clear hv2
      refine hK _ _ (StepX.of hSn) ?_
      clear hSn
      (try simp only [Act.put, List.setIfInBounds_toArray, List.set_cons_zero, List.set_cons_succ])
      have n0 := (HB.out.step HT.out).cell 0
      have n1 := (HB.out.step HT.out).cell 1
      simp only [List.getElem?_cons_zero, List.getElem?_cons_succ] at n0 n1
      repeat (first | (refine run_off rfl rfl (by rfl) ?_; (try simp only [Act.put, List.setIfInBounds_toArray, List.set_cons_zero, List.set_cons_succ])) | (refine run_chain_off rfl rfl (by rfl) (K0_mono _) ?_; (try simp only [Act.put, List.setIfInBounds_toArray, List.set_cons_zero, List.set_cons_succ])) | ((refine run_want rfl rfl (by rfl) ⟨?_, fun W hW => ?_, ?_⟩; rotate_left; (· (have d0 := hW.keeps.cell id n0; have d1 := hW.keeps.cell id n1; go_simp; (try with_reducible rfl)))); (try simp only [Act.put, List.setIfInBounds_toArray, List.set_cons_zero, List.set_cons_succ])))
      clear n0 n1
      refine run_chain rfl rfl (by rfl) (fun Wi hWi K' hK => ?_)
      have HTi := Lib.hid (HT.out.trans hWi)
      have h1i := Lib.hid (SL.go Hhv1.out hWi)
      have h2i := Lib.hid (SL.go Hhv2.out hWi)
      clear hWi HT Hhv1 Hhv2
      go_simp
      refine (Reach_any (fun _ => False) l t (kk : Int) ⟨wx, wy⟩ _ _ _ h1i.out h2i.out).mono ?_
      rintro e wn ⟨kr, rfl, hkr, hkz, hSn⟩
      have HT := Lib.hid (HTi.out.trans (StepX.of hSn))
      have Hhv1 := Lib.hid (SL.go h1i.out hSn)
      have Hhv2 := Lib.hid (SL.go h2i.out hSn)
      have HZI := Lib.hid HTi.out.size
      clear HTi h1i h2i
      rw [HAT.out]
      have HKR := Lib.hid (hkr HAT.out)
      clear Hhv1 Hhv2 hkr hkz
      refine hK _ _ (StepX.of hSn) ?_
      clear hSn
      (try simp only [Act.put, List.setIfInBounds_toArray, List.set_cons_zero, List.set_cons_succ])
      repeat (first | (refine run_off rfl rfl (by rfl) ?_; (try simp only [Act.put, List.setIfInBounds_toArray, List.set_cons_zero, List.set_cons_succ])) | (refine run_chain_off rfl rfl (by rfl) (K0_mono _) ?_; (try simp only [Act.put, List.setIfInBounds_toArray, List.set_cons_zero, List.set_cons_succ])) | ((refine run_want rfl rfl (by rfl) ⟨?_, fun W hW => ?_, ?_⟩; rotate_left; (· (skip; go_simp; (try with_reducible rfl)))); (try simp only [Act.put, List.setIfInBounds_toArray, List.set_cons_zero, List.set_cons_succ])))
      refine run_end (L := []) rfl (fun W6 hW6 => ?_)
      have HT6 := Lib.hid (HT.out.trans hW6)
      clear hW6 HT
      have HT := HT6
      clear HT6
      have hkr := HKR.out
      have hk1 : decide (kr < 0) = false := decide_eq_false (by have := hkr.1; omega)
      have hk2 : decide (10000 < kr) = false := decide_eq_false (by have := hkr.2.1; omega)
      clear hkr
      by_cases h9 : 999 < kr
      · have hk3 : decide (999 < kr) = true := by simpa using h9
        clear h9
        go_wp2_with fail
        refine (wakes_any _).mono ?_
        rintro e wz ⟨rfl, hSz⟩
        go_wp2
        go_ret
        exact ⟨rfl, HS.out.trans (HT.out.trans hSz)⟩
      have hk3 : decide (999 < kr) = false := by simpa using h9
      have HK9 := Lib.hid (show 0 ≤ kr ∧ kr ≤ 999 by have := HKR.out.1; omega)
      clear h9
      go_wp2_with fail
      refine (Tent_any _ t _ _ (SL.go HU.out HT.out) HFEW.out.2).mono ?_
      rintro e wn ⟨v2, rfl, hv2, hSn⟩
      have HTi := Lib.hid (HT.out.trans hSn)
      clear hSn HT
      have HT := HTi
      clear HTi
      clear hk1 hk2 hk3
      have hklt := HKL.out
      have htl := HTP.out.1
      obtain ⟨p2, c2, b2, o2, rfl, hc2, _, hp2, _⟩ := SL.go hv2 (Step.refl _)
      obtain rfl := hp2 (by omega)
      have hs1 : IntKind.i64.wrap ((kk : Int) + 1) = (kk : Int) + 1 := by rw [IntKind.wrap_i64]; omega
      have htn : ((kk : Int) + 1).toNat = kk + 1 := by omega
      have hin : (0 : Int) ≤ (kk : Int) ∧ (kk : Int) ≤ (kk : Int) + 1 ∧ (kk : Int) + 1 ≤ (c2 : Int) := by omega
      have hni : ¬ c2 = kk := by omega
      have hni2 : ¬ c2 - kk = 0 := by omega
      have hsub := SL.sub hv2 hklt (c2 - kk) (by omega)
      have hks : kk + 1 - kk = 1 := by omega
      have HSUB := Lib.hid (SL.go hsub (Step.refl _))
      clear hsub hp2
      go_upto_region 11 with (fail)
      have hk9 := HK9.out
      have hip := HIP.out
      obtain ⟨nn, hnn⟩ : ∃ n, n = p0.tmod (kr + 1) := ⟨_, rfl⟩
      have hm3 : p0.tmod (kr + 1) = nn := hnn.symm
      have hn1 := Int.tmod_nonneg (kr + 1) hip.2.1
      have hn2 := Int.tmod_lt_of_pos p0 (show 0 < kr + 1 by omega)
      rw [hm3] at hn1 hn2
      have HNN := Lib.hid (show 0 ≤ nn ∧ nn ≤ kr by omega)
      have hw1 : IntKind.i64.wrap p0 = p0 := by rw [IntKind.wrap_i64]; omega
      have hw2 : IntKind.i64.wrap (kr + 1) = kr + 1 := by rw [IntKind.wrap_i64]; omega
      have hw3 : IntKind.i64.wrap nn = nn := by rw [IntKind.wrap_i64]; omega
      have hne : kr + 1 ≠ 0 := by omega
      clear hnn hk9 hip hn1 hn2
      clear hs1 htn hin hni hni2 hks
      go_upto_region 12 with (fail)
      clear hw1 hw2 hw3 hne hm3
      have hxy := HXY.out
      have hk9 := HK9.out
      have hnn := HNN.out
      have m1 := small_mul hk9.1 (by omega) hxy.1.1 hxy.1.2
      have m2 := small_mul hk9.1 (by omega) hxy.2.1 hxy.2.2
      have m3 := small_mul hnn.1 (by omega) hxy.1.1 hxy.1.2
      have m4 := small_mul hnn.1 (by omega) hxy.2.1 hxy.2.2
      have hs1 : IntKind.i64.wrap (kr * wx) = kr * wx := by rw [IntKind.wrap_i64]; omega
      have hs2 : IntKind.i64.wrap (kr * wy) = kr * wy := by rw [IntKind.wrap_i64]; omega
      have hs3 : IntKind.i64.wrap (nn * wx) = nn * wx := by rw [IntKind.wrap_i64]; omega
      have hs4 : IntKind.i64.wrap (nn * wy) = nn * wy := by rw [IntKind.wrap_i64]; omega
      clear hxy hk9 hnn m1 m2 m3 m4
      refine Mk.wp_region_seq (Mk.kdOf [1, 22] [] [(21, 40, 2, #[.int .i64 (kr * wx), .int .i64 (kr * wy), .int .i64 (nn * wx), .int .i64 (nn * wy)])]) [0, 1, 0, 0, 0, 16, 56, 0, 0, 256, 896, 2040, 0, 0, 8192, 28672, 0, 0, 131072, 458752, 1044480, 2097144, 4194303, 8388607] [0, 2, 3, 4, 5, 6, 7, 8, 9, 10, 11, 12, 13, 14, 15, 16, 17, 18, 19, 20, 1, 21, 22, 23] [] (by kernel_rfl) (by kernel_rfl) (fun i T z hi hk => by simp only [List.mem_cons, List.not_mem_nil, or_false] at hi; rcases hi with rfl | rfl | rfl | rfl | rfl | rfl | rfl | rfl | rfl | rfl | rfl | rfl | rfl | rfl | rfl | rfl | rfl | rfl | rfl | rfl | rfl | rfl | rfl | rfl <;> simp [Mk.kdOf] at hk) ?_
      intro Wx hWx
      have HTx := Lib.hid (HT.out.trans hWx)
      have HSUBx := Lib.hid (SL.go HSUB.out hWx)
      clear hWx HT HSUB
      have HT := HTx
      have HSUB := HSUBx
      clear HTx HSUBx
      have n0 := (HB.out.step HT.out).cell 0
      have n1 := (HB.out.step HT.out).cell 1
      simp only [List.getElem?_cons_zero, List.getElem?_cons_succ] at n0 n1
      repeat (first | (refine Mk.run_off rfl rfl (by rfl) ?_; (try simp only [Act.put, List.setIfInBounds_toArray, List.set_cons_zero, List.set_cons_succ])) | (refine Mk.run_chain_off rfl rfl (by rfl) (Mk.K0_mono _) ?_; (try simp only [Act.put, List.setIfInBounds_toArray, List.set_cons_zero, List.set_cons_succ])) | ((refine Mk.run_want rfl rfl (by rfl) ⟨?_, fun W hW => ?_, ?_⟩; rotate_left; (· (have d0 := hW.keeps.cell id n0; have d1 := hW.keeps.cell id n1; go_simp; (try with_reducible rfl)))); (try simp only [Act.put, List.setIfInBounds_toArray, List.set_cons_zero, List.set_cons_succ])))
      clear n0 n1 hs1 hs2 hs3 hs4
      refine Mk.run_chain rfl rfl (by rfl) (fun Wi hWi K' hK => ?_)
      have HTi := Lib.hid (HT.out.trans hWi)
      have h1i := Lib.hid (SL.go HSUB.out hWi)
      clear hWi HT HSUB
      go_simp
      refine (Tests_any _ l _ _ (SL.go HV.out HTi.out) (by have := HFEW.out.1; omega)).mono ?_
      rintro e wn ⟨v1, rfl, hv1, hSn⟩
      have HT := Lib.hid (HTi.out.trans (StepX.of hSn))
      have HSUB := Lib.hid (SL.go h1i.out hSn)
      have HZI := Lib.hid HTi.out.size
      clear HTi h1i
      have Hhv1 := Lib.hid (SL.go hv1 (Step.refl _))
      clear hv1
      refine hK _ _ (StepX.of hSn) ?_
      clear hSn
      (try simp only [Act.put, List.setIfInBounds_toArray, List.set_cons_zero, List.set_cons_succ])
      refine Mk.run_make rfl (by rfl) rfl (fun w => ?_) (fun W2 g hW2 hg hgb hgN => ?_)
      · go_simp
      have HV2 := Lib.hid (vec2_of (S := fun _ => False) (show Bx W2 g [.int .i64 (kr * wx), .int .i64 (kr * wy), .int .i64 (nn * wx), .int .i64 (nn * wy)] 40 from hg) id)
      have HTz := Lib.hid (HT.out.trans hW2)
      have Hv1z := Lib.hid (SL.go Hhv1.out hW2)
      have HSUBz := Lib.hid (SL.go HSUB.out hW2)
      clear HT Hhv1 HSUB hg hgb hgN hW2
      have HT := HTz
      have HSUB := HSUBz
      clear HTz HSUBz
      (try simp only [Act.put, List.setIfInBounds_toArray, List.set_cons_zero, List.set_cons_succ])
      refine Mk.run_chain rfl rfl (by rfl) (fun Wi hWi K' hK => ?_)
      have HTi := Lib.hid (HT.out.trans hWi)
      have h1i := Lib.hid (SL.go Hv1z.out hWi)
      have h2i := Lib.hid (SL.go HSUB.out hWi)
      have h3i := Lib.hid (SL.go HV2.out hWi)
      clear hWi HT Hv1z HSUB HV2
      go_simp
      refine (stands_any (fun _ => False) l [t[kk]] [⟨kr * wx, kr * wy⟩, ⟨nn * wx, nn * wy⟩] _ _ _ _ h1i.out h2i.out h3i.out).mono ?_
      rintro e wn ⟨rfl, hSn⟩
      have HT := Lib.hid (HTi.out.trans (StepX.of hSn))
      have Hv1z := Lib.hid (SL.go h1i.out hSn)
      have HSUB := Lib.hid (SL.go h2i.out hSn)
      have HV2 := Lib.hid (SL.go h3i.out hSn)
      clear HTi h1i h2i h3i
      have HUS := Lib.hid (upto_stands HRD.out HSD.out hklt HXY.out.1 HXY.out.2 HKR.out HK9.out HNN.out)
      rw [HUS.out.1]
      clear Hv1z HV2
      refine hK _ _ (StepX.of hSn) ?_
      clear hSn
      (try simp only [Act.put, List.setIfInBounds_toArray, List.set_cons_zero, List.set_cons_succ])
      repeat (first | (refine Mk.run_off rfl rfl (by rfl) ?_; (try simp only [Act.put, List.setIfInBounds_toArray, List.set_cons_zero, List.set_cons_succ])) | (refine Mk.run_chain_off rfl rfl (by rfl) (Mk.K0_mono _) ?_; (try simp only [Act.put, List.setIfInBounds_toArray, List.set_cons_zero, List.set_cons_succ])) | ((refine Mk.run_want rfl rfl (by rfl) ⟨?_, fun W hW => ?_, ?_⟩; rotate_left; (· (skip; go_simp; (try with_reducible rfl)))); (try simp only [Act.put, List.setIfInBounds_toArray, List.set_cons_zero, List.set_cons_succ])))
      refine Mk.run_end (L := []) rfl (fun W6 hW6 => ?_)
      have HT6 := Lib.hid (HT.out.trans hW6)
      have HSUB6 := Lib.hid (SL.go HSUB.out hW6)
      clear hW6 HT HSUB
      have HT := HT6
      have HSUB := HSUB6
      clear HT6 HSUB6
      go_upto_region 14 with (fail)
      have hxy := HXY.out
      have hk9 := HK9.out
      have m1 := small_mul (k := kr + 1) (by omega) (by omega) hxy.1.1 hxy.1.2
      have m2 := small_mul (k := kr + 1) (by omega) (by omega) hxy.2.1 hxy.2.2
      have hs0 : IntKind.i64.wrap (kr + 1) = kr + 1 := by rw [IntKind.wrap_i64]; omega
      have hs1 : IntKind.i64.wrap ((kr + 1) * wx) = (kr + 1) * wx := by rw [IntKind.wrap_i64]; omega
      have hs2 : IntKind.i64.wrap ((kr + 1) * wy) = (kr + 1) * wy := by rw [IntKind.wrap_i64]; omega
      clear hxy hk9 m1 m2
      refine Mk.wp_region_seq (Mk.kdOf [1, 15, 18] [] [(14, 40, 1, #[.int .i64 ((kr + 1) * wx), .int .i64 ((kr + 1) * wy)])]) [0, 1, 0, 0, 8, 0, 32, 120, 0, 256, 0, 1024, 3840, 8184, 16376, 32767, 65535, 131071, 262143, 524287, 1048575] [0, 2, 3, 4, 5, 6, 7, 8, 9, 10, 11, 12, 13, 1, 14, 15, 16, 17, 18, 19, 20] [] (by kernel_rfl) (by kernel_rfl) (fun i T z hi hk => by simp only [List.mem_cons, List.not_mem_nil, or_false] at hi; rcases hi with rfl | rfl | rfl | rfl | rfl | rfl | rfl | rfl | rfl | rfl | rfl | rfl | rfl | rfl | rfl | rfl | rfl | rfl | rfl | rfl | rfl <;> simp [Mk.kdOf] at hk) ?_
      intro Wx hWx
      have HTx := Lib.hid (HT.out.trans hWx)
      have HSUBx := Lib.hid (SL.go HSUB.out hWx)
      clear hWx HT HSUB
      have HT := HTx
      have HSUB := HSUBx
      clear HTx HSUBx
      have n0 := (HB.out.step HT.out).cell 0
      have n1 := (HB.out.step HT.out).cell 1
      simp only [List.getElem?_cons_zero, List.getElem?_cons_succ] at n0 n1
      repeat (first | (refine Mk.run_off rfl rfl (by rfl) ?_; (try simp only [Act.put, List.setIfInBounds_toArray, List.set_cons_zero, List.set_cons_succ])) | (refine Mk.run_chain_off rfl rfl (by rfl) (Mk.K0_mono _) ?_; (try simp only [Act.put, List.setIfInBounds_toArray, List.set_cons_zero, List.set_cons_succ])) | ((refine Mk.run_want rfl rfl (by rfl) ⟨?_, fun W hW => ?_, ?_⟩; rotate_left; (· (have d0 := hW.keeps.cell id n0; have d1 := hW.keeps.cell id n1; go_simp; (try with_reducible rfl)))); (try simp only [Act.put, List.setIfInBounds_toArray, List.set_cons_zero, List.set_cons_succ])))
      clear n0 n1 hs0 hs1 hs2
      refine Mk.run_chain rfl rfl (by rfl) (fun Wi hWi K' hK => ?_)
      have HTi := Lib.hid (HT.out.trans hWi)
      have h1i := Lib.hid (SL.go HSUB.out hWi)
      clear hWi HT HSUB
      go_simp
      refine (Tests_any _ l _ _ (SL.go HV.out HTi.out) (by have := HFEW.out.1; omega)).mono ?_
      rintro e wn ⟨v1, rfl, hv1, hSn⟩
      have HT := Lib.hid (HTi.out.trans (StepX.of hSn))
      have HSUB := Lib.hid (SL.go h1i.out hSn)
      have HZI := Lib.hid HTi.out.size
      clear HTi h1i
      have Hhv1 := Lib.hid (SL.go hv1 (Step.refl _))
      clear hv1
      refine hK _ _ (StepX.of hSn) ?_
      clear hSn
      (try simp only [Act.put, List.setIfInBounds_toArray, List.set_cons_zero, List.set_cons_succ])
      refine Mk.run_make rfl (by rfl) rfl (fun w => ?_) (fun W2 g hW2 hg hgb hgN => ?_)
      · go_simp
      have HV2 := Lib.hid (vec1_of (S := fun _ => False) (show Bx W2 g [.int .i64 ((kr + 1) * wx), .int .i64 ((kr + 1) * wy)] 40 from hg) id)
      have HTz := Lib.hid (HT.out.trans hW2)
      have Hv1z := Lib.hid (SL.go Hhv1.out hW2)
      have HSUBz := Lib.hid (SL.go HSUB.out hW2)
      clear HT Hhv1 HSUB hg hgb hgN hW2
      have HT := HTz
      have HSUB := HSUBz
      clear HTz HSUBz
      (try simp only [Act.put, List.setIfInBounds_toArray, List.set_cons_zero, List.set_cons_succ])
      refine Mk.run_chain rfl rfl (by rfl) (fun Wi hWi K' hK => ?_)
      have HTi := Lib.hid (HT.out.trans hWi)
      have h1i := Lib.hid (SL.go Hv1z.out hWi)
      have h2i := Lib.hid (SL.go HSUB.out hWi)
      have h3i := Lib.hid (SL.go HV2.out hWi)
      clear hWi HT Hv1z HSUB HV2
      go_simp
      refine (stands_any (fun _ => False) l [t[kk]] [⟨(kr + 1) * wx, (kr + 1) * wy⟩] _ _ _ _ h1i.out h2i.out h3i.out).mono ?_
      rintro e wn ⟨rfl, hSn⟩
      have HT := Lib.hid (HTi.out.trans (StepX.of hSn))
      have Hv1z := Lib.hid (SL.go h1i.out hSn)
      have HSUB := Lib.hid (SL.go h2i.out hSn)
      have HV2 := Lib.hid (SL.go h3i.out hSn)
      clear HTi h1i h2i h3i
      rw [HUS.out.2]
      clear Hv1z HV2 HSUB
      refine hK _ _ (StepX.of hSn) ?_
      clear hSn
      (try simp only [Act.put, List.setIfInBounds_toArray, List.set_cons_zero, List.set_cons_succ])
      repeat (first | (refine Mk.run_off rfl rfl (by rfl) ?_; (try simp only [Act.put, List.setIfInBounds_toArray, List.set_cons_zero, List.set_cons_succ])) | (refine Mk.run_chain_off rfl rfl (by rfl) (Mk.K0_mono _) ?_; (try simp only [Act.put, List.setIfInBounds_toArray, List.set_cons_zero, List.set_cons_succ])) | ((refine Mk.run_want rfl rfl (by rfl) ⟨?_, fun W hW => ?_, ?_⟩; rotate_left; (· (skip; go_simp; (try with_reducible rfl)))); (try simp only [Act.put, List.setIfInBounds_toArray, List.set_cons_zero, List.set_cons_succ])))
      refine Mk.run_chain rfl rfl (by rfl) (fun Wi hWi K' hK => ?_)
      have HTi := Lib.hid (HT.out.trans hWi)
      have HZW := Lib.hid HTi.out.size
      clear hWi HT
      go_simp
      refine (wakes_any _).mono ?_
      rintro e wn ⟨rfl, hSn⟩
      have HT := Lib.hid (HTi.out.trans (StepX.of hSn))
      clear HTi
      refine hK _ _ (StepX.of hSn) ?_
      clear hSn
      (try simp only [Act.put, List.setIfInBounds_toArray, List.set_cons_zero, List.set_cons_succ])
      repeat (first | (refine Mk.run_off rfl rfl (by rfl) ?_; (try simp only [Act.put, List.setIfInBounds_toArray, List.set_cons_zero, List.set_cons_succ])) | (refine Mk.run_chain_off rfl rfl (by rfl) (Mk.K0_mono _) ?_; (try simp only [Act.put, List.setIfInBounds_toArray, List.set_cons_zero, List.set_cons_succ])) | ((refine Mk.run_want rfl rfl (by rfl) ⟨?_, fun W hW => ?_, ?_⟩; rotate_left; (· (skip; go_simp; (try with_reducible rfl)))); (try simp only [Act.put, List.setIfInBounds_toArray, List.set_cons_zero, List.set_cons_succ])))
      refine Mk.run_end (L := []) rfl (fun W6 hW6 => ?_)
      have HT6 := Lib.hid (HT.out.trans hW6)
      clear hW6 HT
      have HT := HT6
      clear HT6
      go_wp2
      go_ret
      exact ⟨rfl, HS.out.trans HT.out⟩
  · have HWB := Lib.hid (show wayB ⟨wx, wy⟩ = true by rw [HWY.out.1, HWY.out.2]; unfold veq; simp [hx])
    go_upto_region 4 with (fail)
    clear hx n0 n1 HWY
    have hat0 := tent_parts (ready_ok HRD.out).2
    have hip := HIP.out
    obtain ⟨kk, hkk, hklt⟩ := rem_index (n := t.length) hip.1.1 (by omega)
    have HTP := Lib.hid hat0
    have HKL := Lib.hid hklt
    have hw1 : IntKind.i64.wrap i0 = i0 := by rw [IntKind.wrap_i64]; omega
    have hne : (t.length : Int) ≠ 0 := by omega
    have hne3 : ¬ t.length = 0 := by omega
    have HAT := Lib.hid (show atC l t (kk : Int) (wayB ⟨wx, wy⟩) = 0 by
      unfold atC
      rw [if_pos HRD.out, HWB.out, if_pos, HSD.out]
      simp [withinB]; omega)
    clear hat0 hip
    go_upto_region 5 with (fail)
    clear hw1 hne hne3 hkk
    refine wp_region_seq (kdOf [1, 3, 6] []) [0, 1, 0, 7, 0, 0, 63, 127, 255, 255, 511, 2047] [0, 2, 4, 5, 1, 3, 6, 7, 8, 9, 10, 11] [] (by kernel_rfl) (by kernel_rfl) (fun i T z hi hk => by simp [kdOf] at hk <;> (try (split at hk <;> cases hk))) ?_
    intro Wx hWx
    have HTx := Lib.hid (HT.out.trans hWx)
    clear hWx HT
    have HT := HTx
    clear HTx
    have n0 := (HB.out.step HT.out).cell 0
    have n1 := (HB.out.step HT.out).cell 1
    simp only [List.getElem?_cons_zero, List.getElem?_cons_succ] at n0 n1
    repeat (first | (refine run_off rfl rfl (by rfl) ?_; (try simp only [Act.put, List.setIfInBounds_toArray, List.set_cons_zero, List.set_cons_succ])) | (refine run_chain_off rfl rfl (by rfl) (K0_mono _) ?_; (try simp only [Act.put, List.setIfInBounds_toArray, List.set_cons_zero, List.set_cons_succ])) | ((refine run_want rfl rfl (by rfl) ⟨?_, fun W hW => ?_, ?_⟩; rotate_left; (· (have d0 := hW.keeps.cell id n0; have d1 := hW.keeps.cell id n1; go_simp; (try with_reducible rfl)))); (try simp only [Act.put, List.setIfInBounds_toArray, List.set_cons_zero, List.set_cons_succ])))
    clear n0 n1
    refine run_chain rfl rfl (by rfl) (fun Wi hWi K' hK => ?_)
    have HTi := Lib.hid (HT.out.trans hWi)
    have HZW := Lib.hid HTi.out.size
    clear hWi HT
    go_simp
    refine (Tests_any _ l _ _ (SL.go HV.out HTi.out) (by have := HFEW.out.1; omega)).mono ?_
    rintro e wn ⟨v1, rfl, hv1, hSn⟩
    have HT := Lib.hid (HTi.out.trans (StepX.of hSn))
    clear HTi
    have Hhv1 := Lib.hid (SL.go hv1 (Step.refl _))
    clear hv1
    refine hK _ _ (StepX.of hSn) ?_
    clear hSn
    (try simp only [Act.put, List.setIfInBounds_toArray, List.set_cons_zero, List.set_cons_succ])
    repeat (first | (refine run_off rfl rfl (by rfl) ?_; (try simp only [Act.put, List.setIfInBounds_toArray, List.set_cons_zero, List.set_cons_succ])) | (refine run_chain_off rfl rfl (by rfl) (K0_mono _) ?_; (try simp only [Act.put, List.setIfInBounds_toArray, List.set_cons_zero, List.set_cons_succ])) | ((refine run_want rfl rfl (by rfl) ⟨?_, fun W hW => ?_, ?_⟩; rotate_left; (· (skip; go_simp; (try with_reducible rfl)))); (try simp only [Act.put, List.setIfInBounds_toArray, List.set_cons_zero, List.set_cons_succ])))
    refine run_chain rfl rfl (by rfl) (fun Wi hWi K' hK => ?_)
    have HTi := Lib.hid (HT.out.trans hWi)
    have h1i := Lib.hid (SL.go Hhv1.out hWi)
    clear hWi HT Hhv1
    go_simp
    refine (Tent_any _ t _ _ (SL.go HU.out HTi.out) HFEW.out.2).mono ?_
    rintro e wn ⟨v2, rfl, hv2, hSn⟩
    have HT := Lib.hid (HTi.out.trans (StepX.of hSn))
    have Hhv1 := Lib.hid (SL.go h1i.out hSn)
    have HZI := Lib.hid HTi.out.size
    clear HTi h1i
    have Hhv2 := Lib.hid (SL.go hv2 (Step.refl _))
    clear hv2
    refine hK _ _ (StepX.of hSn) ?_
    clear hSn
    (try simp only [Act.put, List.setIfInBounds_toArray, List.set_cons_zero, List.set_cons_succ])
    have n0 := (HB.out.step HT.out).cell 0
    have n1 := (HB.out.step HT.out).cell 1
    simp only [List.getElem?_cons_zero, List.getElem?_cons_succ] at n0 n1
    repeat (first | (refine run_off rfl rfl (by rfl) ?_; (try simp only [Act.put, List.setIfInBounds_toArray, List.set_cons_zero, List.set_cons_succ])) | (refine run_chain_off rfl rfl (by rfl) (K0_mono _) ?_; (try simp only [Act.put, List.setIfInBounds_toArray, List.set_cons_zero, List.set_cons_succ])) | ((refine run_want rfl rfl (by rfl) ⟨?_, fun W hW => ?_, ?_⟩; rotate_left; (· (have d0 := hW.keeps.cell id n0; have d1 := hW.keeps.cell id n1; go_simp; (try with_reducible rfl)))); (try simp only [Act.put, List.setIfInBounds_toArray, List.set_cons_zero, List.set_cons_succ])))
    clear n0 n1
    refine run_chain rfl rfl (by rfl) (fun Wi hWi K' hK => ?_)
    have HTi := Lib.hid (HT.out.trans hWi)
    have h1i := Lib.hid (SL.go Hhv1.out hWi)
    have h2i := Lib.hid (SL.go Hhv2.out hWi)
    clear hWi HT Hhv1 Hhv2
    go_simp
    refine (Reach_any (fun _ => False) l t (kk : Int) ⟨wx, wy⟩ _ _ _ h1i.out h2i.out).mono ?_
    rintro e wn ⟨kr, rfl, hkr, hkz, hSn⟩
    have HT := Lib.hid (HTi.out.trans (StepX.of hSn))
    have Hhv1 := Lib.hid (SL.go h1i.out hSn)
    have Hhv2 := Lib.hid (SL.go h2i.out hSn)
    have HZI := Lib.hid HTi.out.size
    clear HTi h1i h2i
    rw [HAT.out]
    have HKR := Lib.hid (hkr HAT.out)
    clear Hhv1 Hhv2 hkr hkz
    refine hK _ _ (StepX.of hSn) ?_
    clear hSn
    (try simp only [Act.put, List.setIfInBounds_toArray, List.set_cons_zero, List.set_cons_succ])
    repeat (first | (refine run_off rfl rfl (by rfl) ?_; (try simp only [Act.put, List.setIfInBounds_toArray, List.set_cons_zero, List.set_cons_succ])) | (refine run_chain_off rfl rfl (by rfl) (K0_mono _) ?_; (try simp only [Act.put, List.setIfInBounds_toArray, List.set_cons_zero, List.set_cons_succ])) | ((refine run_want rfl rfl (by rfl) ⟨?_, fun W hW => ?_, ?_⟩; rotate_left; (· (skip; go_simp; (try with_reducible rfl)))); (try simp only [Act.put, List.setIfInBounds_toArray, List.set_cons_zero, List.set_cons_succ])))
    refine run_end (L := []) rfl (fun W6 hW6 => ?_)
    have HT6 := Lib.hid (HT.out.trans hW6)
    clear hW6 HT
    have HT := HT6
    clear HT6
    have hkr := HKR.out
    have hk1 : decide (kr < 0) = false := decide_eq_false (by have := hkr.1; omega)
    have hk2 : decide (10000 < kr) = false := decide_eq_false (by have := hkr.2.1; omega)
    clear hkr
    by_cases h9 : 999 < kr
    · have hk3 : decide (999 < kr) = true := by simpa using h9
      clear h9
      go_wp2_with fail
      refine (wakes_any _).mono ?_
      rintro e wz ⟨rfl, hSz⟩
      go_wp2
      go_ret
      exact ⟨rfl, HS.out.trans (HT.out.trans hSz)⟩
    have hk3 : decide (999 < kr) = false := by simpa using h9
    have HK9 := Lib.hid (show 0 ≤ kr ∧ kr ≤ 999 by have := HKR.out.1; omega)
    clear h9
    go_wp2_with fail
    refine (Tent_any _ t _ _ (SL.go HU.out HT.out) HFEW.out.2).mono ?_
    rintro e wn ⟨v2, rfl, hv2, hSn⟩
    have HTi := Lib.hid (HT.out.trans hSn)
    clear hSn HT
    have HT := HTi
    clear HTi
    clear hk1 hk2 hk3
    have hklt := HKL.out
    have htl := HTP.out.1
    obtain ⟨p2, c2, b2, o2, rfl, hc2, _, hp2, _⟩ := SL.go hv2 (Step.refl _)
    obtain rfl := hp2 (by omega)
    have hs1 : IntKind.i64.wrap ((kk : Int) + 1) = (kk : Int) + 1 := by rw [IntKind.wrap_i64]; omega
    have htn : ((kk : Int) + 1).toNat = kk + 1 := by omega
    have hin : (0 : Int) ≤ (kk : Int) ∧ (kk : Int) ≤ (kk : Int) + 1 ∧ (kk : Int) + 1 ≤ (c2 : Int) := by omega
    have hni : ¬ c2 = kk := by omega
    have hni2 : ¬ c2 - kk = 0 := by omega
    have hsub := SL.sub hv2 hklt (c2 - kk) (by omega)
    have hks : kk + 1 - kk = 1 := by omega
    have HSUB := Lib.hid (SL.go hsub (Step.refl _))
    clear hsub hp2
    go_upto_region 11 with (fail)
    have hk9 := HK9.out
    have hip := HIP.out
    obtain ⟨nn, hnn⟩ : ∃ n, n = p0.tmod (kr + 1) := ⟨_, rfl⟩
    have hm3 : p0.tmod (kr + 1) = nn := hnn.symm
    have hn1 := Int.tmod_nonneg (kr + 1) hip.2.1
    have hn2 := Int.tmod_lt_of_pos p0 (show 0 < kr + 1 by omega)
    rw [hm3] at hn1 hn2
    have HNN := Lib.hid (show 0 ≤ nn ∧ nn ≤ kr by omega)
    have hw1 : IntKind.i64.wrap p0 = p0 := by rw [IntKind.wrap_i64]; omega
    have hw2 : IntKind.i64.wrap (kr + 1) = kr + 1 := by rw [IntKind.wrap_i64]; omega
    have hw3 : IntKind.i64.wrap nn = nn := by rw [IntKind.wrap_i64]; omega
    have hne : kr + 1 ≠ 0 := by omega
    clear hnn hk9 hip hn1 hn2
    clear hs1 htn hin hni hni2 hks
    go_upto_region 12 with (fail)
    clear hw1 hw2 hw3 hne hm3
    have hxy := HXY.out
    have hk9 := HK9.out
    have hnn := HNN.out
    have m1 := small_mul hk9.1 (by omega) hxy.1.1 hxy.1.2
    have m2 := small_mul hk9.1 (by omega) hxy.2.1 hxy.2.2
    have m3 := small_mul hnn.1 (by omega) hxy.1.1 hxy.1.2
    have m4 := small_mul hnn.1 (by omega) hxy.2.1 hxy.2.2
    have hs1 : IntKind.i64.wrap (kr * wx) = kr * wx := by rw [IntKind.wrap_i64]; omega
    have hs2 : IntKind.i64.wrap (kr * wy) = kr * wy := by rw [IntKind.wrap_i64]; omega
    have hs3 : IntKind.i64.wrap (nn * wx) = nn * wx := by rw [IntKind.wrap_i64]; omega
    have hs4 : IntKind.i64.wrap (nn * wy) = nn * wy := by rw [IntKind.wrap_i64]; omega
    clear hxy hk9 hnn m1 m2 m3 m4
    refine Mk.wp_region_seq (Mk.kdOf [1, 22] [] [(21, 40, 2, #[.int .i64 (kr * wx), .int .i64 (kr * wy), .int .i64 (nn * wx), .int .i64 (nn * wy)])]) [0, 1, 0, 0, 0, 16, 56, 0, 0, 256, 896, 2040, 0, 0, 8192, 28672, 0, 0, 131072, 458752, 1044480, 2097144, 4194303, 8388607] [0, 2, 3, 4, 5, 6, 7, 8, 9, 10, 11, 12, 13, 14, 15, 16, 17, 18, 19, 20, 1, 21, 22, 23] [] (by kernel_rfl) (by kernel_rfl) (fun i T z hi hk => by simp only [List.mem_cons, List.not_mem_nil, or_false] at hi; rcases hi with rfl | rfl | rfl | rfl | rfl | rfl | rfl | rfl | rfl | rfl | rfl | rfl | rfl | rfl | rfl | rfl | rfl | rfl | rfl | rfl | rfl | rfl | rfl | rfl <;> simp [Mk.kdOf] at hk) ?_
    intro Wx hWx
    have HTx := Lib.hid (HT.out.trans hWx)
    have HSUBx := Lib.hid (SL.go HSUB.out hWx)
    clear hWx HT HSUB
    have HT := HTx
    have HSUB := HSUBx
    clear HTx HSUBx
    have n0 := (HB.out.step HT.out).cell 0
    have n1 := (HB.out.step HT.out).cell 1
    simp only [List.getElem?_cons_zero, List.getElem?_cons_succ] at n0 n1
    repeat (first | (refine Mk.run_off rfl rfl (by rfl) ?_; (try simp only [Act.put, List.setIfInBounds_toArray, List.set_cons_zero, List.set_cons_succ])) | (refine Mk.run_chain_off rfl rfl (by rfl) (Mk.K0_mono _) ?_; (try simp only [Act.put, List.setIfInBounds_toArray, List.set_cons_zero, List.set_cons_succ])) | ((refine Mk.run_want rfl rfl (by rfl) ⟨?_, fun W hW => ?_, ?_⟩; rotate_left; (· (have d0 := hW.keeps.cell id n0; have d1 := hW.keeps.cell id n1; go_simp; (try with_reducible rfl)))); (try simp only [Act.put, List.setIfInBounds_toArray, List.set_cons_zero, List.set_cons_succ])))
    clear n0 n1 hs1 hs2 hs3 hs4
    refine Mk.run_chain rfl rfl (by rfl) (fun Wi hWi K' hK => ?_)
    have HTi := Lib.hid (HT.out.trans hWi)
    have h1i := Lib.hid (SL.go HSUB.out hWi)
    clear hWi HT HSUB
    go_simp
    refine (Tests_any _ l _ _ (SL.go HV.out HTi.out) (by have := HFEW.out.1; omega)).mono ?_
    rintro e wn ⟨v1, rfl, hv1, hSn⟩
    have HT := Lib.hid (HTi.out.trans (StepX.of hSn))
    have HSUB := Lib.hid (SL.go h1i.out hSn)
    have HZI := Lib.hid HTi.out.size
    clear HTi h1i
    have Hhv1 := Lib.hid (SL.go hv1 (Step.refl _))
    clear hv1
    refine hK _ _ (StepX.of hSn) ?_
    clear hSn
    (try simp only [Act.put, List.setIfInBounds_toArray, List.set_cons_zero, List.set_cons_succ])
    refine Mk.run_make rfl (by rfl) rfl (fun w => ?_) (fun W2 g hW2 hg hgb hgN => ?_)
    · go_simp
    have HV2 := Lib.hid (vec2_of (S := fun _ => False) (show Bx W2 g [.int .i64 (kr * wx), .int .i64 (kr * wy), .int .i64 (nn * wx), .int .i64 (nn * wy)] 40 from hg) id)
    have HTz := Lib.hid (HT.out.trans hW2)
    have Hv1z := Lib.hid (SL.go Hhv1.out hW2)
    have HSUBz := Lib.hid (SL.go HSUB.out hW2)
    clear HT Hhv1 HSUB hg hgb hgN hW2
    have HT := HTz
    have HSUB := HSUBz
    clear HTz HSUBz
    (try simp only [Act.put, List.setIfInBounds_toArray, List.set_cons_zero, List.set_cons_succ])
    refine Mk.run_chain rfl rfl (by rfl) (fun Wi hWi K' hK => ?_)
    have HTi := Lib.hid (HT.out.trans hWi)
    have h1i := Lib.hid (SL.go Hv1z.out hWi)
    have h2i := Lib.hid (SL.go HSUB.out hWi)
    have h3i := Lib.hid (SL.go HV2.out hWi)
    clear hWi HT Hv1z HSUB HV2
    go_simp
    refine (stands_any (fun _ => False) l [t[kk]] [⟨kr * wx, kr * wy⟩, ⟨nn * wx, nn * wy⟩] _ _ _ _ h1i.out h2i.out h3i.out).mono ?_
    rintro e wn ⟨rfl, hSn⟩
    have HT := Lib.hid (HTi.out.trans (StepX.of hSn))
    have Hv1z := Lib.hid (SL.go h1i.out hSn)
    have HSUB := Lib.hid (SL.go h2i.out hSn)
    have HV2 := Lib.hid (SL.go h3i.out hSn)
    clear HTi h1i h2i h3i
    have HUS := Lib.hid (upto_stands HRD.out HSD.out hklt HXY.out.1 HXY.out.2 HKR.out HK9.out HNN.out)
    rw [HUS.out.1]
    clear Hv1z HV2
    refine hK _ _ (StepX.of hSn) ?_
    clear hSn
    (try simp only [Act.put, List.setIfInBounds_toArray, List.set_cons_zero, List.set_cons_succ])
    repeat (first | (refine Mk.run_off rfl rfl (by rfl) ?_; (try simp only [Act.put, List.setIfInBounds_toArray, List.set_cons_zero, List.set_cons_succ])) | (refine Mk.run_chain_off rfl rfl (by rfl) (Mk.K0_mono _) ?_; (try simp only [Act.put, List.setIfInBounds_toArray, List.set_cons_zero, List.set_cons_succ])) | ((refine Mk.run_want rfl rfl (by rfl) ⟨?_, fun W hW => ?_, ?_⟩; rotate_left; (· (skip; go_simp; (try with_reducible rfl)))); (try simp only [Act.put, List.setIfInBounds_toArray, List.set_cons_zero, List.set_cons_succ])))
    refine Mk.run_end (L := []) rfl (fun W6 hW6 => ?_)
    have HT6 := Lib.hid (HT.out.trans hW6)
    have HSUB6 := Lib.hid (SL.go HSUB.out hW6)
    clear hW6 HT HSUB
    have HT := HT6
    have HSUB := HSUB6
    clear HT6 HSUB6
    go_upto_region 14 with (fail)
    have hxy := HXY.out
    have hk9 := HK9.out
    have m1 := small_mul (k := kr + 1) (by omega) (by omega) hxy.1.1 hxy.1.2
    have m2 := small_mul (k := kr + 1) (by omega) (by omega) hxy.2.1 hxy.2.2
    have hs0 : IntKind.i64.wrap (kr + 1) = kr + 1 := by rw [IntKind.wrap_i64]; omega
    have hs1 : IntKind.i64.wrap ((kr + 1) * wx) = (kr + 1) * wx := by rw [IntKind.wrap_i64]; omega
    have hs2 : IntKind.i64.wrap ((kr + 1) * wy) = (kr + 1) * wy := by rw [IntKind.wrap_i64]; omega
    clear hxy hk9 m1 m2
    refine Mk.wp_region_seq (Mk.kdOf [1, 15, 18] [] [(14, 40, 1, #[.int .i64 ((kr + 1) * wx), .int .i64 ((kr + 1) * wy)])]) [0, 1, 0, 0, 8, 0, 32, 120, 0, 256, 0, 1024, 3840, 8184, 16376, 32767, 65535, 131071, 262143, 524287, 1048575] [0, 2, 3, 4, 5, 6, 7, 8, 9, 10, 11, 12, 13, 1, 14, 15, 16, 17, 18, 19, 20] [] (by kernel_rfl) (by kernel_rfl) (fun i T z hi hk => by simp only [List.mem_cons, List.not_mem_nil, or_false] at hi; rcases hi with rfl | rfl | rfl | rfl | rfl | rfl | rfl | rfl | rfl | rfl | rfl | rfl | rfl | rfl | rfl | rfl | rfl | rfl | rfl | rfl | rfl <;> simp [Mk.kdOf] at hk) ?_
    intro Wx hWx
    have HTx := Lib.hid (HT.out.trans hWx)
    have HSUBx := Lib.hid (SL.go HSUB.out hWx)
    clear hWx HT HSUB
    have HT := HTx
    have HSUB := HSUBx
    clear HTx HSUBx
    have n0 := (HB.out.step HT.out).cell 0
    have n1 := (HB.out.step HT.out).cell 1
    simp only [List.getElem?_cons_zero, List.getElem?_cons_succ] at n0 n1
    repeat (first | (refine Mk.run_off rfl rfl (by rfl) ?_; (try simp only [Act.put, List.setIfInBounds_toArray, List.set_cons_zero, List.set_cons_succ])) | (refine Mk.run_chain_off rfl rfl (by rfl) (Mk.K0_mono _) ?_; (try simp only [Act.put, List.setIfInBounds_toArray, List.set_cons_zero, List.set_cons_succ])) | ((refine Mk.run_want rfl rfl (by rfl) ⟨?_, fun W hW => ?_, ?_⟩; rotate_left; (· (have d0 := hW.keeps.cell id n0; have d1 := hW.keeps.cell id n1; go_simp; (try with_reducible rfl)))); (try simp only [Act.put, List.setIfInBounds_toArray, List.set_cons_zero, List.set_cons_succ])))
    clear n0 n1 hs0 hs1 hs2
    refine Mk.run_chain rfl rfl (by rfl) (fun Wi hWi K' hK => ?_)
    have HTi := Lib.hid (HT.out.trans hWi)
    have h1i := Lib.hid (SL.go HSUB.out hWi)
    clear hWi HT HSUB
    go_simp
    refine (Tests_any _ l _ _ (SL.go HV.out HTi.out) (by have := HFEW.out.1; omega)).mono ?_
    rintro e wn ⟨v1, rfl, hv1, hSn⟩
    have HT := Lib.hid (HTi.out.trans (StepX.of hSn))
    have HSUB := Lib.hid (SL.go h1i.out hSn)
    have HZI := Lib.hid HTi.out.size
    clear HTi h1i
    have Hhv1 := Lib.hid (SL.go hv1 (Step.refl _))
    clear hv1
    refine hK _ _ (StepX.of hSn) ?_
    clear hSn
    (try simp only [Act.put, List.setIfInBounds_toArray, List.set_cons_zero, List.set_cons_succ])
    refine Mk.run_make rfl (by rfl) rfl (fun w => ?_) (fun W2 g hW2 hg hgb hgN => ?_)
    · go_simp
    have HV2 := Lib.hid (vec1_of (S := fun _ => False) (show Bx W2 g [.int .i64 ((kr + 1) * wx), .int .i64 ((kr + 1) * wy)] 40 from hg) id)
    have HTz := Lib.hid (HT.out.trans hW2)
    have Hv1z := Lib.hid (SL.go Hhv1.out hW2)
    have HSUBz := Lib.hid (SL.go HSUB.out hW2)
    clear HT Hhv1 HSUB hg hgb hgN hW2
    have HT := HTz
    have HSUB := HSUBz
    clear HTz HSUBz
    (try simp only [Act.put, List.setIfInBounds_toArray, List.set_cons_zero, List.set_cons_succ])
    refine Mk.run_chain rfl rfl (by rfl) (fun Wi hWi K' hK => ?_)
    have HTi := Lib.hid (HT.out.trans hWi)
    have h1i := Lib.hid (SL.go Hv1z.out hWi)
    have h2i := Lib.hid (SL.go HSUB.out hWi)
    have h3i := Lib.hid (SL.go HV2.out hWi)
    clear hWi HT Hv1z HSUB HV2
    go_simp
    refine (stands_any (fun _ => False) l [t[kk]] [⟨(kr + 1) * wx, (kr + 1) * wy⟩] _ _ _ _ h1i.out h2i.out h3i.out).mono ?_
    rintro e wn ⟨rfl, hSn⟩
    have HT := Lib.hid (HTi.out.trans (StepX.of hSn))
    have Hv1z := Lib.hid (SL.go h1i.out hSn)
    have HSUB := Lib.hid (SL.go h2i.out hSn)
    have HV2 := Lib.hid (SL.go h3i.out hSn)
    clear HTi h1i h2i h3i
    rw [HUS.out.2]
    clear Hv1z HV2 HSUB
    refine hK _ _ (StepX.of hSn) ?_
    clear hSn
    (try simp only [Act.put, List.setIfInBounds_toArray, List.set_cons_zero, List.set_cons_succ])
    repeat (first | (refine Mk.run_off rfl rfl (by rfl) ?_; (try simp only [Act.put, List.setIfInBounds_toArray, List.set_cons_zero, List.set_cons_succ])) | (refine Mk.run_chain_off rfl rfl (by rfl) (Mk.K0_mono _) ?_; (try simp only [Act.put, List.setIfInBounds_toArray, List.set_cons_zero, List.set_cons_succ])) | ((refine Mk.run_want rfl rfl (by rfl) ⟨?_, fun W hW => ?_, ?_⟩; rotate_left; (· (skip; go_simp; (try with_reducible rfl)))); (try simp only [Act.put, List.setIfInBounds_toArray, List.set_cons_zero, List.set_cons_succ])))
    refine Mk.run_chain rfl rfl (by rfl) (fun Wi hWi K' hK => ?_)
    have HTi := Lib.hid (HT.out.trans hWi)
    have HZW := Lib.hid HTi.out.size
    clear hWi HT
    go_simp
    refine (wakes_any _).mono ?_
    rintro e wn ⟨rfl, hSn⟩
    have HT := Lib.hid (HTi.out.trans (StepX.of hSn))
    clear HTi
    refine hK _ _ (StepX.of hSn) ?_
    clear hSn
    (try simp only [Act.put, List.setIfInBounds_toArray, List.set_cons_zero, List.set_cons_succ])
    repeat (first | (refine Mk.run_off rfl rfl (by rfl) ?_; (try simp only [Act.put, List.setIfInBounds_toArray, List.set_cons_zero, List.set_cons_succ])) | (refine Mk.run_chain_off rfl rfl (by rfl) (Mk.K0_mono _) ?_; (try simp only [Act.put, List.setIfInBounds_toArray, List.set_cons_zero, List.set_cons_succ])) | ((refine Mk.run_want rfl rfl (by rfl) ⟨?_, fun W hW => ?_, ?_⟩; rotate_left; (· (skip; go_simp; (try with_reducible rfl)))); (try simp only [Act.put, List.setIfInBounds_toArray, List.set_cons_zero, List.set_cons_succ])))
    refine Mk.run_end (L := []) rfl (fun W6 hW6 => ?_)
    have HT6 := Lib.hid (HT.out.trans hW6)
    clear hW6 HT
    have HT := HT6
    clear HT6
    go_wp2
    go_ret
    exact ⟨rfl, HS.out.trans HT.out⟩
end Go.Proofs.Ytdcjbbeoocldeaa
/- CanvasUpto: of every input the law answers true, and its arguments read as they did. -/
namespace Go.Proofs.Ytdcjbbeoocldeaa.upto
open Go.ChangeShapes Go.WideShapes Go.ChangeAt Go.RowKit Go.BT
set_option linter.unusedVariables false
set_option linter.unusedSimpArgs false

set_option maxRecDepth 100000 in
theorem lifted (os : Os) (started : os.Started) (H : Type) (enc : TypeId × Value → H) :
    ReturnsInHanded {} Try.checked os 10 .any (Rows.canvasUptoSpec.pre6 enc Try.prog Try.f10 Rows.canvasUptoRow.domain false) (Rows.canvasUptoSpec.post enc Try.prog Try.f10 false true false false) := by
  refine returnsInHanded_of_change (C := Try.checked) own started (by kernel_rfl) Try.func10
    (ChangeSpec.witness6 (enc := enc) (C := Try.checked) false ⟨#[], #[.slice none 0 0, .slice none 0 0, .int .u8 0, .int .i8 0, .int .i8 0, .int .u16 0], []⟩ 8 (by kernel_rfl) (by kernel_rfl) (by kernel_rfl) (by kernel_rfl)) ?_
  intro W base args ds gs before hval0 hW hcnd _
  have hval : ∀ (j : Nat) t v, Try.f10.params[j]? = some t → args[j]? = some v → Value.okWide Try.prog W .any base t v := hval0
  have hW' := hW
  obtain ⟨p, q, hA0, hV, rfl, hfz, hnd⟩ := hW
  have hA : DataW.TrodAll enc Try.prog W 0 (fun _ => true) true Try.f10.params.toList args.toList ds p := hA0
  have hAk := hA
  rw [Try.params10] at hA hval
  obtain ⟨v0, vs0, d0, ds0, p0, q0, hargs, rfl, rfl, h0, r0⟩ := trodAll_cons hA
  obtain ⟨v1, vs1, d1, ds1, p1, q1, rfl, rfl, rfl, h1, r1⟩ := trodAll_cons r0
  obtain ⟨v2, vs2, d2, ds2, p2, q2, rfl, rfl, rfl, h2, r2⟩ := trodAll_cons r1
  obtain ⟨v3, vs3, d3, ds3, p3, q3, rfl, rfl, rfl, h3, r3⟩ := trodAll_cons r2
  obtain ⟨v4, vs4, d4, ds4, p4, q4, rfl, rfl, rfl, h4, r4⟩ := trodAll_cons r3
  obtain ⟨v5, vs5, d5, ds5, p5, q5, rfl, rfl, rfl, h5, r5⟩ := trodAll_cons r4
  obtain ⟨rfl, rfl, rfl⟩ := trodAll_nil r5
  obtain rfl : args = #[v0, v1, v2, v3, v4, v5] := by cases args; simp_all
  obtain ⟨rfl, rfl⟩ := trodVars_none hV
  obtain ⟨a0, hh0⟩ := sl_of opens_tests Try.underlying22 (hval 0 22 v0 rfl rfl) h0
  obtain ⟨a1, hh1⟩ := sl_of opens_tent Try.underlying24 (hval 1 24 v1 rfl rfl) h1
  obtain ⟨a2, rfl, rfl, rfl, w2⟩ := open_int Try.underlying5 (hval 2 5 v2 rfl rfl) h2
  obtain ⟨a3, rfl, rfl, rfl, w3⟩ := open_int Try.underlying94 (hval 3 94 v3 rfl rfl) h3
  obtain ⟨a4, rfl, rfl, rfl, w4⟩ := open_int Try.underlying94 (hval 4 94 v4 rfl rfl) h4
  obtain ⟨a5, rfl, rfl, rfl, w5⟩ := open_int Try.underlying86 (hval 5 86 v5 rfl rfl) h5
  clear hA0 hval0
  refine (CanvasUpto_any a0 a1 a2 a3 a4 a5 v0 v1 W hh0 hh1 w2 w3 w4 w5).mono fun e W' ⟨he, hg⟩ => ?_
  subst he
  have hlt := hW'.lt
  refine ⟨_, rfl, post_of_below (pv := []) hW' (fun _ _ _ => (trodAll_cons_mk (shut_bool Try.underlying4 _) trodAll_mk0)) (fun sp hs => all_stays laid hg.below (fun t ht => ?_) hAk (fun x hx => hlt x (by simpa using hx)) (fun x hx => hs x (by simpa using hx))) (fun _ _ => rfl) rfl hg.below (ok_one (by kernel_rfl) rfl (okWide_bool_mk Try.underlying4 _))⟩
  rw [Try.params10] at ht
  have : ∀ t ∈ [22, 24, 5, 94, 94, 86], Try.prog.readableRec t = true ∧ t < Try.prog.types.size := by
    intro t ht
    simp only [List.mem_cons, List.not_mem_nil, or_false] at ht
    rcases ht with rfl | rfl | rfl | rfl | rfl | rfl <;> exact ⟨by kernel_rfl, of_decide_eq_true (by kernel_rfl)⟩
  exact this t ht

theorem over : Rows.canvasUptoRow.holds Try.pinned (OpenSpec.ofChange Rows.canvasUptoSpec) :=
  OpenClaim.holds_of_wide 10 Try.f10 rfl rfl rfl rfl rfl rfl rfl ⟨rfl, rfl, rfl, rfl, rfl⟩ rfl rfl rfl rfl rfl (by kernel_rfl) Try.func10 (by kernel_rfl)
    (of_decide_eq_true (by kernel_rfl)) (by unfold Func.isWrapper; first | (rw [if_pos (by decide +kernel)]; kernel_rfl) | (rw [if_neg (by decide +kernel)]; exact ⟨rfl, rfl⟩))
    (fun os started H enc _ => lifted os started H enc)
theorem proved : Rows.CanvasUptoSaid := over
end Go.Proofs.Ytdcjbbeoocldeaa.upto
