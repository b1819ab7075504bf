/- The law CanvasReaches is walked: it answers true. -/
import Derived.Test.YtdcjbbeoocldeaaMl
import Derived.Test.YtdcjbbeoocldeaaRows
/- Walks: the law CanvasReaches: it answers true. -/
namespace Go.Proofs.Ytdcjbbeoocldeaa
set_option linter.unusedSimpArgs false
set_option linter.unusedVariables false
open Go.RowKit Go.BT

theorem wayB_corner {p : Vec} (h : wayB p = true) : cornerB p = true := by
  unfold wayB at h
  rw [Bool.and_eq_true] at h
  exact h.1
set_option maxRecDepth 100000 in
set_option maxHeartbeats 8000000 in
theorem CanvasReaches_any (l : List Tst) (t : List Head) (i : Int) (p : Vec) (v u : Value) (w : World) (hv : SL (fun _ => False) w v l) (hu : SL (fun _ => False) w u t) :
    Calls Try.prog 4 #[v, u, .int .i64 i, .agg #[.int .i64 p.x, .int .i64 p.y]] w fun e w' => e = .returned (.bool true) ∧ Step w w' := by
  obtain ⟨vx, vy⟩ := p
  dsimp only
  obtain ⟨W0, hW0⟩ : ∃ W, W = w.alloc (.cells #[.int .i64 vx, .int .i64 vy] 26) := ⟨_, rfl⟩
  have hb : Bx W0 w.heap.size [.int .i64 vx, .int .i64 vy] 26 := by subst hW0; exact Bx.new w [_, _] _
  have hS : Step w W0 := by subst hW0; exact (by repeat (first | (with_reducible assumption) | (with_reducible exact Step.refl _) | (with_reducible apply Step.s_alloc) | (with_reducible apply Step.s_drew) | (with_reducible apply Step.s_drewN) | (with_reducible refine Step.trans ?_ (by with_reducible assumption))))
  have HB := Lib.hid hb
  have HV := Lib.hid (SL.go hv hS)
  have HU := Lib.hid (SL.go hu hS)
  have HS := Lib.hid hS
  have HT := Lib.hid (Step.refl W0)
  have HW := Lib.hid hW0
  obtain ⟨pv, cv, rfl⟩ := hv.form
  obtain ⟨pu, cu, rfl⟩ := hu.form
  clear hb hS hW0 hv hu
  go_enter Try.func4, Try.ntmps4
  go_upto_region 1 with (fail)
  rw [← HW.out]
  clear HW
  go_wp2_with fail
  refine (Few_any (fun _ => False) l t _ _ _ (HV.out.keep (.of_step HT.out)) (HU.out.keep (.of_step HT.out))).mono ?_
  rintro e wn ⟨rfl, hSn⟩
  have HTi := Lib.hid (HT.out.trans hSn)
  clear hSn HT
  have HT := HTi
  clear HTi
  cases qf : few l t with
  | false =>
    clear qf
    go_wp2_with fail
    refine (wakes_any _).mono ?_
    rintro e wz ⟨rfl, hSz⟩
    go_wp2
    go_ret
    exact ⟨rfl, HS.out.trans (HT.out.trans hSz)⟩
  | true =>
  have HFEW := Lib.hid (few_of qf)
  clear qf
  go_upto_region 3 with (fail)
  refine wp_region_seq (kdOf [1, 3, 6, 7] []) [0, 1, 0, 7, 0, 0, 47, 127, 255, 511, 511, 1023, 4095] [0, 2, 4, 5, 1, 3, 6, 7, 8, 9, 10, 11, 12] [] (by kernel_rfl) (by kernel_rfl) (fun i T z hi hk => by simp [kdOf] at hk <;> (try (split at hk <;> cases hk))) ?_
  intro Wx hWx
  have HTx := Lib.hid (HT.out.trans hWx)
  clear hWx HT
  have HT := HTx
  clear HTx
  have n0 := (HB.out.step HT.out).cell 0
  have n1 := (HB.out.step HT.out).cell 1
  simp only [List.getElem?_cons_zero, List.getElem?_cons_succ] at n0 n1
  repeat (first | (refine run_off rfl rfl (by rfl) ?_; (try simp only [Act.put, List.setIfInBounds_toArray, List.set_cons_zero, List.set_cons_succ])) | (refine run_chain_off rfl rfl (by rfl) (K0_mono _) ?_; (try simp only [Act.put, List.setIfInBounds_toArray, List.set_cons_zero, List.set_cons_succ])) | ((refine run_want rfl rfl (by rfl) ⟨?_, fun W hW => ?_, ?_⟩; rotate_left; (· (have d0 := hW.keeps.cell id n0; have d1 := hW.keeps.cell id n1; go_simp; (try with_reducible rfl)))); (try simp only [Act.put, List.setIfInBounds_toArray, List.set_cons_zero, List.set_cons_succ])))
  clear n0 n1
  refine run_chain rfl rfl (by rfl) (fun Wi hWi K' hK => ?_)
  have HTi := Lib.hid (HT.out.trans hWi)
  have HZW := Lib.hid HTi.out.size
  clear hWi HT
  go_simp
  refine (Tests_any _ l _ _ (SL.go HV.out HTi.out) (by have := HFEW.out.1; omega)).mono ?_
  rintro e wn ⟨v1, rfl, hv1, hSn⟩
  have HT := Lib.hid (HTi.out.trans (StepX.of hSn))
  clear HTi
  have Hhv1 := Lib.hid (SL.go hv1 (Step.refl _))
  clear hv1
  refine hK _ _ (StepX.of hSn) ?_
  clear hSn
  (try simp only [Act.put, List.setIfInBounds_toArray, List.set_cons_zero, List.set_cons_succ])
  repeat (first | (refine run_off rfl rfl (by rfl) ?_; (try simp only [Act.put, List.setIfInBounds_toArray, List.set_cons_zero, List.set_cons_succ])) | (refine run_chain_off rfl rfl (by rfl) (K0_mono _) ?_; (try simp only [Act.put, List.setIfInBounds_toArray, List.set_cons_zero, List.set_cons_succ])) | ((refine run_want rfl rfl (by rfl) ⟨?_, fun W hW => ?_, ?_⟩; rotate_left; (· (skip; go_simp; (try with_reducible rfl)))); (try simp only [Act.put, List.setIfInBounds_toArray, List.set_cons_zero, List.set_cons_succ])))
  refine run_chain rfl rfl (by rfl) (fun Wi hWi K' hK => ?_)
  have HTi := Lib.hid (HT.out.trans hWi)
  have h1i := Lib.hid (SL.go Hhv1.out hWi)
  clear hWi HT Hhv1
  go_simp
  refine (Tent_any _ t _ _ (SL.go HU.out HTi.out) HFEW.out.2).mono ?_
  rintro e wn ⟨v2, rfl, hv2, hSn⟩
  have HT := Lib.hid (HTi.out.trans (StepX.of hSn))
  have Hhv1 := Lib.hid (SL.go h1i.out hSn)
  have HZI := Lib.hid HTi.out.size
  clear HTi h1i
  have Hhv2 := Lib.hid (SL.go hv2 (Step.refl _))
  clear hv2
  refine hK _ _ (StepX.of hSn) ?_
  clear hSn
  (try simp only [Act.put, List.setIfInBounds_toArray, List.set_cons_zero, List.set_cons_succ])
  have n0 := (HB.out.step HT.out).cell 0
  have n1 := (HB.out.step HT.out).cell 1
  simp only [List.getElem?_cons_zero, List.getElem?_cons_succ] at n0 n1
  repeat (first | (refine run_off rfl rfl (by rfl) ?_; (try simp only [Act.put, List.setIfInBounds_toArray, List.set_cons_zero, List.set_cons_succ])) | (refine run_chain_off rfl rfl (by rfl) (K0_mono _) ?_; (try simp only [Act.put, List.setIfInBounds_toArray, List.set_cons_zero, List.set_cons_succ])) | ((refine run_want rfl rfl (by rfl) ⟨?_, fun W hW => ?_, ?_⟩; rotate_left; (· (have d0 := hW.keeps.cell id n0; have d1 := hW.keeps.cell id n1; go_simp; (try with_reducible rfl)))); (try simp only [Act.put, List.setIfInBounds_toArray, List.set_cons_zero, List.set_cons_succ])))
  clear n0 n1
  refine run_chain rfl rfl (by rfl) (fun Wi hWi K' hK => ?_)
  have HTi := Lib.hid (HT.out.trans hWi)
  have h1i := Lib.hid (SL.go Hhv1.out hWi)
  have h2i := Lib.hid (SL.go Hhv2.out hWi)
  clear hWi HT Hhv1 Hhv2
  go_simp
  refine (Vector_any ⟨vx, vy⟩ _).mono ?_
  rintro e wn ⟨rfl, hSn⟩
  have HT := Lib.hid (HTi.out.trans (StepX.of hSn))
  have Hhv1 := Lib.hid (SL.go h1i.out hSn)
  have Hhv2 := Lib.hid (SL.go h2i.out hSn)
  have HZI := Lib.hid HTi.out.size
  clear HTi h1i h2i
  refine hK _ _ (StepX.of hSn) ?_
  clear hSn
  (try simp only [Act.put, List.setIfInBounds_toArray, List.set_cons_zero, List.set_cons_succ])
  repeat (first | (refine run_off rfl rfl (by rfl) ?_; (try simp only [Act.put, List.setIfInBounds_toArray, List.set_cons_zero, List.set_cons_succ])) | (refine run_chain_off rfl rfl (by rfl) (K0_mono _) ?_; (try simp only [Act.put, List.setIfInBounds_toArray, List.set_cons_zero, List.set_cons_succ])) | ((refine run_want rfl rfl (by rfl) ⟨?_, fun W hW => ?_, ?_⟩; rotate_left; (· (skip; go_simp; (try with_reducible rfl)))); (try simp only [Act.put, List.setIfInBounds_toArray, List.set_cons_zero, List.set_cons_succ])))
  refine run_chain rfl rfl (by rfl) (fun Wi hWi K' hK => ?_)
  have HTi := Lib.hid (HT.out.trans hWi)
  have h1i := Lib.hid (SL.go Hhv1.out hWi)
  have h2i := Lib.hid (SL.go Hhv2.out hWi)
  clear hWi HT Hhv1 Hhv2
  go_simp
  refine (Reach_any (fun _ => False) l t i ⟨vx, vy⟩ _ _ _ h1i.out h2i.out).mono ?_
  rintro e wn ⟨kr, rfl, hkr, hkz, hSn⟩
  have HT := Lib.hid (HTi.out.trans (StepX.of hSn))
  have Hhv1 := Lib.hid (SL.go h1i.out hSn)
  have Hhv2 := Lib.hid (SL.go h2i.out hSn)
  have HZI := Lib.hid HTi.out.size
  clear HTi h1i h2i
  have HKR := Lib.hid hkr
  have HKZ := Lib.hid hkz
  obtain ⟨bc, hbc⟩ : ∃ b, b = atC l t i (wayB ⟨vx, vy⟩) := ⟨_, rfl⟩
  rw [← hbc]
  have HCODE := Lib.hid hbc
  clear Hhv1 Hhv2 hbc hkr hkz
  refine hK _ _ (StepX.of hSn) ?_
  clear hSn
  (try simp only [Act.put, List.setIfInBounds_toArray, List.set_cons_zero, List.set_cons_succ])
  repeat (first | (refine run_off rfl rfl (by rfl) ?_; (try simp only [Act.put, List.setIfInBounds_toArray, List.set_cons_zero, List.set_cons_succ])) | (refine run_chain_off rfl rfl (by rfl) (K0_mono _) ?_; (try simp only [Act.put, List.setIfInBounds_toArray, List.set_cons_zero, List.set_cons_succ])) | ((refine run_want rfl rfl (by rfl) ⟨?_, fun W hW => ?_, ?_⟩; rotate_left; (· (skip; go_simp; (try with_reducible rfl)))); (try simp only [Act.put, List.setIfInBounds_toArray, List.set_cons_zero, List.set_cons_succ])))
  refine run_end (L := []) rfl (fun W6 hW6 => ?_)
  have HT6 := Lib.hid (HT.out.trans hW6)
  clear hW6 HT
  have HT := HT6
  clear HT6
  obtain ⟨w7, hw7⟩ : ∃ W, W = W6 := ⟨_, rfl⟩
  subst hw7
  have HBw := Lib.hid (HB.out.step HT.out)
  have HV7 := Lib.hid (SL.go HV.out HT.out)
  have HU7 := Lib.hid (SL.go HU.out HT.out)
  have HS7 := Lib.hid (HS.out.trans HT.out)
  clear HS HT HV HU HB
  have HS := HS7
  clear HS7
  have HT := Lib.hid (Step.refl w7)
  have n0 := HBw.out.cell 0
  have n1 := HBw.out.cell 1
  simp only [List.getElem?_cons_zero, List.getElem?_cons_succ] at n0 n1
  go_wp2_with fail
  refine (Corner_any ⟨vx, vy⟩ _).mono ?_
  rintro e wn ⟨rfl, hSn⟩
  have HTi := Lib.hid (HT.out.trans hSn)
  clear hSn HT
  have HT := HTi
  clear HTi
  have n0 := HT.out.keeps.cell id n0
  have n1 := HT.out.keeps.cell id n1
  cases qc : cornerB ⟨vx, vy⟩ with
  | false =>
    have HWB := Lib.hid (show wayB ⟨vx, vy⟩ = false by unfold wayB; rw [qc]; rfl)
    clear qc
    rw [HWB.out] at HCODE HKZ HKR
    go_wp2_with fail
    refine (asked_any (fun _ => False) l t i false _ _ _ (SL.go HV7.out HT.out) (SL.go HU7.out HT.out)).mono ?_
    rintro e wn ⟨rfl, hSn⟩
    have HTi := Lib.hid (HT.out.trans hSn)
    clear hSn HT
    have HT := HTi
    clear HTi
    have hk0 := HKZ.out atC_false
    subst hk0
    obtain ⟨c, hc⟩ : ∃ c, c = atC l t i false := ⟨_, rfl⟩
    have h0 : c ≠ 0 := by rw [hc]; exact atC_false
    rw [← hc] at HCODE ⊢
    have hbc := HCODE.out.symm
    subst hbc
    have hd2 : (c != 0) = true := by simpa using h0
    clear h0 hc HKR HKZ n0 n1
    go_wp2_with fail
    refine (wakes_any _).mono ?_
    rintro e wz ⟨rfl, hSz⟩
    go_wp2
    go_ret
    exact ⟨rfl, HS.out.trans (HT.out.trans hSz)⟩
  | true =>
    have hcor := qc
    by_cases hx : vx = 0
    · by_cases hy : vy = 0
      · have HWB := Lib.hid (show wayB ⟨vx, vy⟩ = false by unfold wayB; rw [qc, hx, hy]; rfl)
        clear qc
        rw [HWB.out] at HCODE HKZ HKR
        have hk0 := HKZ.out atC_false
        subst hk0
        go_wp2_with fail
        clear hx hy
        refine (asked_any (fun _ => False) l t i false _ _ _ (SL.go HV7.out HT.out) (SL.go HU7.out HT.out)).mono ?_
        rintro e wn ⟨rfl, hSn⟩
        have HTi := Lib.hid (HT.out.trans hSn)
        clear hSn HT
        have HT := HTi
        clear HTi
        obtain ⟨c, hc⟩ : ∃ c, c = atC l t i false := ⟨_, rfl⟩
        have h0 : c ≠ 0 := by rw [hc]; exact atC_false
        rw [← hc] at HCODE ⊢
        have hbc := HCODE.out.symm
        subst hbc
        have hd2 : (c != 0) = true := by simpa using h0
        clear h0 hc HKR HKZ n0 n1
        go_wp2_with fail
        refine (wakes_any _).mono ?_
        rintro e wz ⟨rfl, hSz⟩
        go_wp2
        go_ret
        exact ⟨rfl, HS.out.trans (HT.out.trans hSz)⟩
      · have HWB := Lib.hid (show wayB ⟨vx, vy⟩ = true by unfold wayB veq; rw [qc]; simp [hy])
        clear qc
        rw [HWB.out] at HCODE HKZ HKR
        go_wp2_with fail
        clear hx hy n0 n1
        refine (asked_any (fun _ => False) l t i true _ _ _ (SL.go HV7.out HT.out) (SL.go HU7.out HT.out)).mono ?_
        rintro e wn ⟨rfl, hSn⟩
        have HTi := Lib.hid (HT.out.trans hSn)
        clear hSn HT
        have HT := HTi
        clear HTi
        obtain ⟨c, hc⟩ : ∃ c, c = atC l t i true := ⟨_, rfl⟩
        rw [← hc] at HCODE HKZ HKR ⊢
        have hbc := HCODE.out.symm
        subst hbc
        by_cases h0 : c = 0
        rotate_left
        · have hd2 : (c != 0) = true := by simpa using h0
          have hk0 := HKZ.out h0
          subst hk0
          clear h0 hc HKR HKZ
          go_wp2_with fail
          refine (wakes_any _).mono ?_
          rintro e wz ⟨rfl, hSz⟩
          go_wp2
          go_ret
          exact ⟨rfl, HS.out.trans (HT.out.trans hSz)⟩
        have hat := hc.symm.trans h0
        have hrk := HKR.out h0
        have hhd := headAt_ok (atC_ok hat).2.1 (atC_ok hat).2.2.1
        subst h0
        clear hc HKZ HKR
        obtain ⟨k1, k2, k3, k4, k5⟩ := atC_ok hat
        obtain ⟨hpa, hpb, hpn, hpg⟩ := head_parts (headAt_ok k2 k3)
        obtain ⟨k, rfl⟩ : ∃ k : Nat, i = k := ⟨i.toNat, by omega⟩
        have hlt : k < t.length := by omega
        rw [headAt_eq hlt] at hpa hpb hpn hpg
        have HHA := Lib.hid (headAt_eq hlt)
        have hix : (0 : Int) ≤ (k : Int) ∧ (k : Int) < (t.length : Int) := by omega
        obtain ⟨pu', cu', bu, ou, heu, _, _, hpu, hcu, _⟩ := HU7.out.heads
        injection heu with heu1 _ heu3
        subst heu1 heu3
        obtain rfl := hpu (by omega)
        obtain ⟨c2, e1, e2, e3, e4⟩ := hcu k hlt
        obtain ⟨h, hh⟩ : ∃ h, h = t[k] := ⟨_, rfl⟩
        rw [← hh] at HHA e1 e2 e4 hpa hpb hpn hpg
        obtain ⟨pg, cg, rfl⟩ := e4.form
        have HHV := Lib.hid (show AV (fun _ => False) w7 (.agg #[.int .i64 h.area, .int .i64 h.bears, .slice pg h.guys.length cg]) h from ⟨_, rfl, _, rfl, e4⟩)
        have HE := Lib.hid (And.intro e1 (And.intro e2 e3))
        have HSM := Lib.hid (forces_small k1 hpg)
        have HFL := Lib.hid (show (forcesL l h.guys).length ≤ 8 by rw [forces_len]; exact hpn)
        have HK1 := Lib.hid (And.intro k1 (And.intro hpg (show h.guys.length ≤ 1000 by omega)))
        obtain ⟨F, hF⟩ : ∃ F, F = forcesL l h.guys := ⟨_, rfl⟩
        rw [← hF] at HSM HFL
        have HFE := Lib.hid hF
        clear e1 e2 e3 e4 hF hh hpu hcu hpb hpn hpg k1 k2 k3 k5
        rw [HHA.out] at hhd hrk
        rw [← HFE.out] at hrk
        have HRK := Lib.hid hrk
        have HHD := Lib.hid (And.intro hhd hcor)
        clear hrk hhd k4 hcor hat hpa HSM HFL
        go_upto_region 7 with (fail)
        refine wp_region_seq (kdOf [10, 14] []) [0, 1, 3, 7, 7, 7, 7, 103, 231, 7, 1015, 2047, 4095, 8191, 16383, 32767, 65535] [0, 1, 2, 3, 4, 5, 6, 7, 8, 9, 10, 11, 12, 13, 14, 15, 16] [] (by kernel_rfl) (by kernel_rfl) (fun i T z hi hk => by simp [kdOf] at hk <;> (try (split at hk <;> cases hk))) ?_
        intro Wx hWx
        have HTx := Lib.hid (HT.out.trans hWx)
        clear hWx HT
        have HT := HTx
        clear HTx
        have n0 := (HBw.out.step HT.out).cell 0
        have n1 := (HBw.out.step HT.out).cell 1
        simp only [List.getElem?_cons_zero, List.getElem?_cons_succ] at n0 n1
        have e1 := HT.out.keeps.cell id HE.out.1
        have e2 := HT.out.keeps.cell id HE.out.2.1
        have e3 := HT.out.keeps.cell id HE.out.2.2
        repeat (first | (refine run_off rfl rfl (by rfl) ?_; (try simp only [Act.put, List.setIfInBounds_toArray, List.set_cons_zero, List.set_cons_succ])) | (refine run_chain_off rfl rfl (by rfl) (K0_mono _) ?_; (try simp only [Act.put, List.setIfInBounds_toArray, List.set_cons_zero, List.set_cons_succ])) | ((refine run_want rfl rfl (by rfl) ⟨?_, fun W hW => ?_, ?_⟩; rotate_left; (· (have d0 := hW.keeps.cell id n0; have d1 := hW.keeps.cell id n1; have d2 := hW.keeps.cell id e1; have d3 := hW.keeps.cell id e2; have d4 := hW.keeps.cell id e3; go_simp; (try with_reducible rfl)))); (try simp only [Act.put, List.setIfInBounds_toArray, List.set_cons_zero, List.set_cons_succ])))
        clear n0 n1 e1 e2 e3
        refine run_chain rfl rfl (by rfl) (fun Wi hWi K' hK => ?_)
        have HTi := Lib.hid (HT.out.trans hWi)
        have HZW := Lib.hid HTi.out.size
        clear hWi HT
        go_simp
        refine (RReach_any (fun _ => False) l h ⟨vx, vy⟩ _ _ _ (SL.go HV7.out HTi.out) (AV.go HHV.out HTi.out) HK1.out.1 HHD.out.1 HHD.out.2).mono ?_
        rintro e wn ⟨kk, rfl, hkk, hSn⟩
        have HT := Lib.hid (HTi.out.trans (StepX.of hSn))
        clear HTi
        rw [← HFE.out] at hkk
        have hkeq := hkk.unique HRK.out
        subst hkeq
        refine hK _ _ (StepX.of hSn) ?_
        clear hSn
        (try simp only [Act.put, List.setIfInBounds_toArray, List.set_cons_zero, List.set_cons_succ])
        repeat (first | (refine run_off rfl rfl (by rfl) ?_; (try simp only [Act.put, List.setIfInBounds_toArray, List.set_cons_zero, List.set_cons_succ])) | (refine run_chain_off rfl rfl (by rfl) (K0_mono _) ?_; (try simp only [Act.put, List.setIfInBounds_toArray, List.set_cons_zero, List.set_cons_succ])) | ((refine run_want rfl rfl (by rfl) ⟨?_, fun W hW => ?_, ?_⟩; rotate_left; (· (skip; go_simp; (try with_reducible rfl)))); (try simp only [Act.put, List.setIfInBounds_toArray, List.set_cons_zero, List.set_cons_succ])))
        refine run_chain rfl rfl (by rfl) (fun Wi hWi K' hK => ?_)
        have HTi := Lib.hid (HT.out.trans hWi)
        have HZW := Lib.hid HTi.out.size
        clear hWi HT
        go_simp
        refine (wakes_any _).mono ?_
        rintro e wn ⟨rfl, hSn⟩
        have HT := Lib.hid (HTi.out.trans (StepX.of hSn))
        clear HTi
        refine hK _ _ (StepX.of hSn) ?_
        clear hSn
        (try simp only [Act.put, List.setIfInBounds_toArray, List.set_cons_zero, List.set_cons_succ])
        repeat (first | (refine run_off rfl rfl (by rfl) ?_; (try simp only [Act.put, List.setIfInBounds_toArray, List.set_cons_zero, List.set_cons_succ])) | (refine run_chain_off rfl rfl (by rfl) (K0_mono _) ?_; (try simp only [Act.put, List.setIfInBounds_toArray, List.set_cons_zero, List.set_cons_succ])) | ((refine run_want rfl rfl (by rfl) ⟨?_, fun W hW => ?_, ?_⟩; rotate_left; (· (skip; go_simp; (try with_reducible rfl)))); (try simp only [Act.put, List.setIfInBounds_toArray, List.set_cons_zero, List.set_cons_succ])))
        refine run_end (L := []) rfl (fun W6 hW6 => ?_)
        have HT6 := Lib.hid (HT.out.trans hW6)
        clear hW6 HT
        have HT := HT6
        clear HT6
        go_wp2
        go_ret
        exact ⟨rfl, HS.out.trans HT.out⟩
    · have HWB := Lib.hid (show wayB ⟨vx, vy⟩ = true by unfold wayB veq; rw [qc]; simp [hx])
      clear qc
      rw [HWB.out] at HCODE HKZ HKR
      go_wp2_with fail
      clear hx n0 n1
      refine (asked_any (fun _ => False) l t i true _ _ _ (SL.go HV7.out HT.out) (SL.go HU7.out HT.out)).mono ?_
      rintro e wn ⟨rfl, hSn⟩
      have HTi := Lib.hid (HT.out.trans hSn)
      clear hSn HT
      have HT := HTi
      clear HTi
      obtain ⟨c, hc⟩ : ∃ c, c = atC l t i true := ⟨_, rfl⟩
      rw [← hc] at HCODE HKZ HKR ⊢
      have hbc := HCODE.out.symm
      subst hbc
      by_cases h0 : c = 0
      rotate_left
      · have hd2 : (c != 0) = true := by simpa using h0
        have hk0 := HKZ.out h0
        subst hk0
        clear h0 hc HKR HKZ
        go_wp2_with fail
        refine (wakes_any _).mono ?_
        rintro e wz ⟨rfl, hSz⟩
        go_wp2
        go_ret
        exact ⟨rfl, HS.out.trans (HT.out.trans hSz)⟩
      have hat := hc.symm.trans h0
      have hrk := HKR.out h0
      have hhd := headAt_ok (atC_ok hat).2.1 (atC_ok hat).2.2.1
      subst h0
      clear hc HKZ HKR
      obtain ⟨k1, k2, k3, k4, k5⟩ := atC_ok hat
      obtain ⟨hpa, hpb, hpn, hpg⟩ := head_parts (headAt_ok k2 k3)
      obtain ⟨k, rfl⟩ : ∃ k : Nat, i = k := ⟨i.toNat, by omega⟩
      have hlt : k < t.length := by omega
      rw [headAt_eq hlt] at hpa hpb hpn hpg
      have HHA := Lib.hid (headAt_eq hlt)
      have hix : (0 : Int) ≤ (k : Int) ∧ (k : Int) < (t.length : Int) := by omega
      obtain ⟨pu', cu', bu, ou, heu, _, _, hpu, hcu, _⟩ := HU7.out.heads
      injection heu with heu1 _ heu3
      subst heu1 heu3
      obtain rfl := hpu (by omega)
      obtain ⟨c2, e1, e2, e3, e4⟩ := hcu k hlt
      obtain ⟨h, hh⟩ : ∃ h, h = t[k] := ⟨_, rfl⟩
      rw [← hh] at HHA e1 e2 e4 hpa hpb hpn hpg
      obtain ⟨pg, cg, rfl⟩ := e4.form
      have HHV := Lib.hid (show AV (fun _ => False) w7 (.agg #[.int .i64 h.area, .int .i64 h.bears, .slice pg h.guys.length cg]) h from ⟨_, rfl, _, rfl, e4⟩)
      have HE := Lib.hid (And.intro e1 (And.intro e2 e3))
      have HSM := Lib.hid (forces_small k1 hpg)
      have HFL := Lib.hid (show (forcesL l h.guys).length ≤ 8 by rw [forces_len]; exact hpn)
      have HK1 := Lib.hid (And.intro k1 (And.intro hpg (show h.guys.length ≤ 1000 by omega)))
      obtain ⟨F, hF⟩ : ∃ F, F = forcesL l h.guys := ⟨_, rfl⟩
      rw [← hF] at HSM HFL
      have HFE := Lib.hid hF
      clear e1 e2 e3 e4 hF hh hpu hcu hpb hpn hpg k1 k2 k3 k5
      rw [HHA.out] at hhd hrk
      rw [← HFE.out] at hrk
      have HRK := Lib.hid hrk
      have HHD := Lib.hid (And.intro hhd hcor)
      clear hrk hhd k4 hcor hat hpa HSM HFL
      go_upto_region 7 with (fail)
      refine wp_region_seq (kdOf [10, 14] []) [0, 1, 3, 7, 7, 7, 7, 103, 231, 7, 1015, 2047, 4095, 8191, 16383, 32767, 65535] [0, 1, 2, 3, 4, 5, 6, 7, 8, 9, 10, 11, 12, 13, 14, 15, 16] [] (by kernel_rfl) (by kernel_rfl) (fun i T z hi hk => by simp [kdOf] at hk <;> (try (split at hk <;> cases hk))) ?_
      intro Wx hWx
      have HTx := Lib.hid (HT.out.trans hWx)
      clear hWx HT
      have HT := HTx
      clear HTx
      have n0 := (HBw.out.step HT.out).cell 0
      have n1 := (HBw.out.step HT.out).cell 1
      simp only [List.getElem?_cons_zero, List.getElem?_cons_succ] at n0 n1
      have e1 := HT.out.keeps.cell id HE.out.1
      have e2 := HT.out.keeps.cell id HE.out.2.1
      have e3 := HT.out.keeps.cell id HE.out.2.2
      repeat (first | (refine run_off rfl rfl (by rfl) ?_; (try simp only [Act.put, List.setIfInBounds_toArray, List.set_cons_zero, List.set_cons_succ])) | (refine run_chain_off rfl rfl (by rfl) (K0_mono _) ?_; (try simp only [Act.put, List.setIfInBounds_toArray, List.set_cons_zero, List.set_cons_succ])) | ((refine run_want rfl rfl (by rfl) ⟨?_, fun W hW => ?_, ?_⟩; rotate_left; (· (have d0 := hW.keeps.cell id n0; have d1 := hW.keeps.cell id n1; have d2 := hW.keeps.cell id e1; have d3 := hW.keeps.cell id e2; have d4 := hW.keeps.cell id e3; go_simp; (try with_reducible rfl)))); (try simp only [Act.put, List.setIfInBounds_toArray, List.set_cons_zero, List.set_cons_succ])))
      clear n0 n1 e1 e2 e3
      refine run_chain rfl rfl (by rfl) (fun Wi hWi K' hK => ?_)
      have HTi := Lib.hid (HT.out.trans hWi)
      have HZW := Lib.hid HTi.out.size
      clear hWi HT
      go_simp
      refine (RReach_any (fun _ => False) l h ⟨vx, vy⟩ _ _ _ (SL.go HV7.out HTi.out) (AV.go HHV.out HTi.out) HK1.out.1 HHD.out.1 HHD.out.2).mono ?_
      rintro e wn ⟨kk, rfl, hkk, hSn⟩
      have HT := Lib.hid (HTi.out.trans (StepX.of hSn))
      clear HTi
      rw [← HFE.out] at hkk
      have hkeq := hkk.unique HRK.out
      subst hkeq
      refine hK _ _ (StepX.of hSn) ?_
      clear hSn
      (try simp only [Act.put, List.setIfInBounds_toArray, List.set_cons_zero, List.set_cons_succ])
      repeat (first | (refine run_off rfl rfl (by rfl) ?_; (try simp only [Act.put, List.setIfInBounds_toArray, List.set_cons_zero, List.set_cons_succ])) | (refine run_chain_off rfl rfl (by rfl) (K0_mono _) ?_; (try simp only [Act.put, List.setIfInBounds_toArray, List.set_cons_zero, List.set_cons_succ])) | ((refine run_want rfl rfl (by rfl) ⟨?_, fun W hW => ?_, ?_⟩; rotate_left; (· (skip; go_simp; (try with_reducible rfl)))); (try simp only [Act.put, List.setIfInBounds_toArray, List.set_cons_zero, List.set_cons_succ])))
      refine run_chain rfl rfl (by rfl) (fun Wi hWi K' hK => ?_)
      have HTi := Lib.hid (HT.out.trans hWi)
      have HZW := Lib.hid HTi.out.size
      clear hWi HT
      go_simp
      refine (wakes_any _).mono ?_
      rintro e wn ⟨rfl, hSn⟩
      have HT := Lib.hid (HTi.out.trans (StepX.of hSn))
      clear HTi
      refine hK _ _ (StepX.of hSn) ?_
      clear hSn
      (try simp only [Act.put, List.setIfInBounds_toArray, List.set_cons_zero, List.set_cons_succ])
      repeat (first | (refine run_off rfl rfl (by rfl) ?_; (try simp only [Act.put, List.setIfInBounds_toArray, List.set_cons_zero, List.set_cons_succ])) | (refine run_chain_off rfl rfl (by rfl) (K0_mono _) ?_; (try simp only [Act.put, List.setIfInBounds_toArray, List.set_cons_zero, List.set_cons_succ])) | ((refine run_want rfl rfl (by rfl) ⟨?_, fun W hW => ?_, ?_⟩; rotate_left; (· (skip; go_simp; (try with_reducible rfl)))); (try simp only [Act.put, List.setIfInBounds_toArray, List.set_cons_zero, List.set_cons_succ])))
      refine run_end (L := []) rfl (fun W6 hW6 => ?_)
      have HT6 := Lib.hid (HT.out.trans hW6)
      clear hW6 HT
      have HT := HT6
      clear HT6
      go_wp2
      go_ret
      exact ⟨rfl, HS.out.trans HT.out⟩
end Go.Proofs.Ytdcjbbeoocldeaa
