/- Walks and plain laws, part j. -/
import Derived.Test.YtfhmdpicoccnfaaGreatMd
import Derived.Test.YtfhmdpicoccnfaaGreatMf
import Derived.Test.YtfhmdpicoccnfaaGreatRows
set_option maxHeartbeats 16000000
set_option maxRecDepth 100000
set_option linter.unusedVariables false
set_option linter.unusedSimpArgs false
namespace Go.BT
theorem limitsC_ready (l : List Tst) (t : List Head) (s : Site) : limitsC l t s = if readyC l t = 0 then (if siteB s = true then soundC l else 1) else readyC l t := by
 unfold limitsC readyC tentC
 by_cases h1 : testsC l = 0
 ·rw [if_pos h1, if_pos h1]
  cases h2 : tentB t with
  | true => cases h3 : siteB s <;> simp
  | false => simp
 ·rw [if_neg h1, if_neg h1, if_neg h1]
theorem reefedC_le (s : Site) (t : List Head) (i : Int) : reefedC s t i ≠ 0 → reefedR s t i = [] := fun h => by unfold reefedR; rw [if_neg h]
theorem limitsC_le (l : List Tst) (t : List Head) (s : Site) : limitsC l t s ≠ 0 → limitsR l t s = [] := fun h => by unfold limitsR; rw [if_neg h]
end Go.BT
namespace Go.Proofs.YtfhmdpicoccnfaaGreat
set_option linter.unusedSimpArgs false
set_option linter.unusedVariables false
open Go.RowKit Go.BT
theorem reefed_zero {s : Site} {t : List Head} {i : Int} (h : reefedC s t i = 0) : tentB t = true ∧ siteB s = true ∧ withinB i 0 ((s.stages.length : Int) - 1) = true := by
 unfold reefedC at h
 split at h
 ·rename_i q
  split at h
  ·rename_i r; exact ⟨q.1, q.2, r⟩
  ·simp at h
 ·simp at h
theorem limits_zero {l : List Tst} {t : List Head} {s : Site} (h : limitsC l t s = 0) : testsC l = 0 ∧ tentB t = true ∧ siteB s = true ∧ soundC l = 0 := by
 unfold limitsC at h
 split at h
 ·rename_i p
  split at h
  ·rename_i q; exact ⟨p, q.1, q.2, h⟩
  ·simp at h
 ·rename_i p; exact absurd h p
theorem few_reef {t : List Head} {c : Int} (h : fewT t) : fewT (reefL c t) := by
 refine ⟨by simpa [reefL] using h.1, fun i hi => ?_⟩
 have hi' : i < t.length := by simpa [reefL] using hi
 have := h.2 i hi'
 simpa [reefL, reefH] using this
theorem ClashG_any (l : List Tst) (v : Value) (w : World) (hv : SL (fun _ => False) w v l) :
  Calls Tryz.prog 24 #[v] w fun e w' => ∃ i j : Int, e = .returned (.tuple #[.int .i64 i, .int .i64 j]) ∧ (l.all tstB = true → decide (0 ≤ i) = clashB l) ∧ Step w w' := by
 by_cases h : l.all tstB = true
 ·refine (Clash_any (fun _ => False) l v w hv h).mono ?_
  rintro e w' ⟨i, j, he, h2, h3⟩
  exact ⟨i, j, he, fun _ => h2, h3⟩
 ·refine (Clash_weak (fun _ => False) l v w hv).mono ?_
  rintro e w' ⟨i, j, he, h3⟩
  exact ⟨i, j, he, fun q => absurd q h, h3⟩
theorem limitsC_two {l : List Tst} {t : List Head} {s : Site} {tw2 lc : Int} (h1 : lc = limitsC l t s) (h2 : tw2 = if readyC l t = 0 ∧ siteB s = false then 1 else readyC l t) : (tw2 ≠ 0 → lc = tw2) ∧ (tw2 = 0 → l.all tstB = true ∧ tentB t = true ∧ siteB s = true ∧ testsC l = 0 ∧ lc = soundC l) := by
 rw [limitsC_ready] at h1
 by_cases h : readyC l t = 0
 ·rw [if_pos h] at h1
  cases hs : siteB s with
  | false =>
   rw [hs] at h1 h2
   rw [if_pos ⟨h, rfl⟩] at h2
   subst h2
   exact ⟨fun _ => h1, fun q => by simp at q⟩
  | true =>
   rw [hs] at h1 h2
   rw [if_neg (fun q => by simp at q), h] at h2
   subst h2
   refine ⟨fun q => by simp at q, fun _ => ?_⟩
   unfold readyC at h
   split at h
   ·rename_i ht
    refine ⟨tests_all ht, ?_, rfl, ht, h1⟩
    unfold tentC at h
    split at h
    ·assumption
    ·simp at h
   ·rename_i ht; exact absurd h ht
 ·rw [if_neg h] at h1
  rw [if_neg (fun q => h q.1)] at h2
  subst h1 h2
  exact ⟨fun _ => rfl, fun q => absurd q h⟩
theorem GaleLimits_any (l : List Tst) (t : List Head) (s : Site) (stage : Int) (v u x : Value) (w : World) (hv : SL (fun _ => False) w v l) (hu : SL (fun _ => False) w u t) (hx : AV (fun _ => False) w x s) :
  Calls Tryz.prog 4 #[v, u, x, .int .i64 stage] w fun e w' => e = .returned (.bool true) ∧ Step w w' := by
 obtain ⟨c0, c1, c2, rfl, h0, h1, h2⟩ := hx.site
 obtain ⟨p0, k0, rfl⟩ := h0.form
 obtain ⟨p1, k1, rfl⟩ := h1.form
 obtain ⟨p2, k2, rfl⟩ := h2.form
 obtain ⟨W0, hW0⟩ : ∃ W, W = w.alloc (.cells #[.slice p0 s.base.length k0, .slice p1 s.levels.length k1, .slice p2 s.stages.length k2, .int .i64 s.openS] 29) := ⟨_, rfl⟩
 have hS : Step w W0 := by subst hW0; exact Step.alloc _ _
 have HB := zH (show Bx W0 w.heap.size [.slice p0 s.base.length k0, .slice p1 s.levels.length k1, .slice p2 s.stages.length k2, .int .i64 s.openS] 29 by subst hW0; exact Bx.new w [_, _, _, _] _)
 have HV := zH (SL.go hv hS)
 have HU := zH (SL.go hu hS)
 have HAV := zH (AV.go hx hS)
 have HV2 := zH (SL.go h2 hS)
 have HS := zH hS
 have HT := zH (Step.refl W0)
 have HW := zH hW0
 obtain ⟨pv, cv, rfl⟩ := hv.form
 obtain ⟨pu, cu, rfl⟩ := hu.form
 clear hS hW0 hv hu hx h0 h1 h2
 go_enter Tryz.func4, Tryz.ntmps4
 go_upto_region 1 with (fail)
 rw [← HW.out]
 go_wp2_with fail
 refine (Few_any (fun _ => False) l t _ _ _ (SL.go HV.out HT.out) (SL.go HU.out HT.out)).mono ?_
 rintro e wn ⟨rfl, hSn⟩
 have HTi := zH (HT.out.trans hSn)
 clear hSn HT
 have HT := HTi
 clear HTi
 cases qf : few l t with
 | false =>
  clear qf
  go_wp2_with fail
  refine (gwakes_any _).mono ?_
  rintro e wz ⟨rfl, hSz⟩
  go_wp2
  go_ret
  exact ⟨rfl, HS.out.trans (HT.out.trans hSz)⟩
 | true =>
 have HFEW := zH (few_of qf)
 clear qf
 have n0 := (HB.out.step HT.out).cell 0
 have n1 := (HB.out.step HT.out).cell 1
 have n2 := (HB.out.step HT.out).cell 2
 have n3 := (HB.out.step HT.out).cell 3
 simp only [zD, zE] at n0 n1 n2 n3
 go_wp2_with fail
 refine (smallSite_any (fun _ => False) s _ _ (AV.go HAV.out HT.out)).mono ?_
 rintro e wn ⟨rfl, hSn⟩
 have HTi := zH (HT.out.trans hSn)
 clear hSn HT
 have HT := HTi
 clear HTi
 clear n0 n1 n2 n3
 cases qs : smallB s with
 | false =>
  clear qs
  go_wp2_with fail
  refine (gwakes_any _).mono ?_
  rintro e wz ⟨rfl, hSz⟩
  go_wp2
  go_ret
  exact ⟨rfl, HS.out.trans (HT.out.trans hSz)⟩
 | true =>
 have HSM := zH (show s.base.length ≤ 15 ∧ s.levels.length ≤ 15 ∧ s.stages.length ≤ 15 by
  simp only [smallB, Bool.and_eq_true, decide_eq_true_eq] at qs; exact ⟨qs.1.1, qs.1.2, qs.2⟩)
 clear qs
 go_upto_region 3 with (fail)
 have q1 := SL.go HV.out HT.out
 have q2 := SL.go HU.out HT.out
 have q3 := AV.go HAV.out HT.out
 have q4 := SL.go HV2.out HT.out
 have q5 := HB.out.step HT.out
 have q6 := HS.out.trans HT.out
 clear HV HU HAV HV2 HB HS HT
 have HV := zH q1
 have HU := zH q2
 have HAV := zH q3
 have HV2 := zH q4
 have HB := zH q5
 have HS := zH q6
 have HT := zH (Step.refl wn)
 clear q1 q2 q3 q4 q5 q6
 refine wp_region_seq (kdOf [1, 3, 5] []) [0, 1, 0, 7, 0, 31, 63, 127, 127, 255, 1023] [0, 2, 4, 1, 3, 5, 6, 7, 8, 9, 10] [] (by kernel_rfl) (by kernel_rfl) (fun i T z hi hk => by simp [kdOf] at hk <;> (try (split at hk <;> cases hk))) ?_
 intro Wx hWx
 have HTx := zH (HT.out.trans hWx)
 clear hWx HT
 have HT := HTx
 clear HTx
 have n0 := (HB.out.step HT.out).cell 0
 have n1 := (HB.out.step HT.out).cell 1
 have n2 := (HB.out.step HT.out).cell 2
 have n3 := (HB.out.step HT.out).cell 3
 simp only [zD, zE] at n0 n1 n2 n3
 repeat ((first | (refine run_off rfl rfl (by rfl) ?_) | (refine run_chain_off rfl rfl (by rfl) (K0_mono _) ?_) | ((refine run_want rfl rfl (by rfl) ⟨?_, fun W hW => ?_, ?_⟩; rotate_left; (· (have d0 := hW.kc n0; have d1 := hW.kc n1; have d2 := hW.kc n2; have d3 := hW.kc n3; go_simp; (try with_reducible rfl)))))); (try simp only [Act.put, zA, zB, zC]))
 clear n0 n1 n2 n3
 refine run_chain rfl rfl (by rfl) (fun Wi hWi K' hK => ?_)
 have HTi := zH (HT.out.trans hWi)
 have HZW := zH HTi.out.size
 clear hWi HT
 go_simp
 refine (Tent_any (fun _ => False) t _ _ (SL.go HU.out HTi.out) HFEW.out.2).mono ?_
 rintro e wn ⟨v2, rfl, hv2, hSn⟩
 have HT := zH (HTi.out.trans (StepX.of hSn))
 clear HTi
 have Hhv2 := zH (SL.go hv2 (Step.refl _))
 clear hv2
 refine hK _ _ (StepX.of hSn) ?_
 clear hSn
 (try simp only [Act.put, zA, zB, zC])
 have n0 := (HB.out.step HT.out).cell 0
 have n1 := (HB.out.step HT.out).cell 1
 have n2 := (HB.out.step HT.out).cell 2
 have n3 := (HB.out.step HT.out).cell 3
 simp only [zD, zE] at n0 n1 n2 n3
 repeat ((first | (refine run_off rfl rfl (by rfl) ?_) | (refine run_chain_off rfl rfl (by rfl) (K0_mono _) ?_) | ((refine run_want rfl rfl (by rfl) ⟨?_, fun W hW => ?_, ?_⟩; rotate_left; (· (have d0 := hW.kc n0; have d1 := hW.kc n1; have d2 := hW.kc n2; have d3 := hW.kc n3; go_simp; (try with_reducible rfl)))))); (try simp only [Act.put, zA, zB, zC]))
 clear n0 n1 n2 n3
 refine run_chain rfl rfl (by rfl) (fun Wi hWi K' hK => ?_)
 have HTi := zH (HT.out.trans hWi)
 have h1i := zH (SL.go Hhv2.out hWi)
 clear hWi HT Hhv2
 go_simp
 refine (SiteL_any (fun _ => False) s _ _ (AV.go HAV.out HTi.out) (by have := HSM.out; omega) (by have := HSM.out; omega) (by have := HSM.out; omega)).mono ?_
 rintro e wn ⟨v3, rfl, hv3, hSn⟩
 have HT := zH (HTi.out.trans (StepX.of hSn))
 have Hhv2 := zH (SL.go h1i.out hSn)
 have HZI := zH HTi.out.size
 clear HTi h1i
 have Hhv3 := zH (AV.go hv3 (Step.refl _))
 clear hv3
 refine hK _ _ (StepX.of hSn) ?_
 clear hSn
 (try simp only [Act.put, zA, zB, zC])
 repeat ((first | (refine run_off rfl rfl (by rfl) ?_) | (refine run_chain_off rfl rfl (by rfl) (K0_mono _) ?_) | ((refine run_want rfl rfl (by rfl) ⟨?_, fun W hW => ?_, ?_⟩; rotate_left; (· (skip; go_simp; (try with_reducible rfl)))))); (try simp only [Act.put, zA, zB, zC]))
 refine run_chain rfl rfl (by rfl) (fun Wi hWi K' hK => ?_)
 have HTi := zH (HT.out.trans hWi)
 have hcall := zH (ReefedG_any s t stage _ _ _ (SL.go Hhv2.out hWi) (AV.go Hhv3.out hWi))
 clear hWi HT Hhv2 Hhv3
 go_simp
 refine hcall.out.mono ?_
 clear hcall
 rintro e wn8 ⟨v22, rfl, hv22, hSn⟩
 obtain ⟨rc, hrc⟩ : ∃ c, c = reefedC s t stage := ⟨_, rfl⟩
 obtain ⟨rl, hrl⟩ : ∃ c, c = reefedR s t stage := ⟨_, rfl⟩
 rw [← hrl] at hv22
 rw [← hrc]
 have HRC := zH (And.intro hrc hrl)
 clear hrc hrl
 obtain ⟨p22, c22, rfl⟩ := hv22.form
 have HT := zH (HTi.out.trans (StepX.of hSn))
 have HXR := zH (SL.go hv22 (Step.refl _))
 clear HTi hv22
 refine hK _ _ (StepX.of hSn) ?_
 clear hSn
 (try simp only [Act.put, zA, zB, zC])
 repeat ((first | (refine run_off rfl rfl (by rfl) ?_) | (refine run_chain_off rfl rfl (by rfl) (K0_mono _) ?_) | ((refine run_want rfl rfl (by rfl) ⟨?_, fun W hW => ?_, ?_⟩; rotate_left; (· (skip; go_simp; (try with_reducible rfl)))))); (try simp only [Act.put, zA, zB, zC]))
 refine run_end (L := []) rfl (fun W6 hW6 => ?_)
 have HT6 := zH (HT.out.trans hW6)
 have HXR6 := zH (SL.go HXR.out hW6)
 clear HXR hW6 HT
 have HXR := HXR6
 have HT := HT6
 clear HXR6 HT6
 go_upto_region 4 with (fail)
 have q1 := SL.go HV.out HT.out
 have q2 := SL.go HU.out HT.out
 have q3 := AV.go HAV.out HT.out
 have q4 := SL.go HV2.out HT.out
 have q5 := HB.out.step HT.out
 have q6 := HS.out.trans HT.out
 clear HV HU HAV HV2 HB HS HT
 have HV := zH q1
 have HU := zH q2
 have HAV := zH q3
 have HV2 := zH q4
 have HB := zH q5
 have HS := zH q6
 have HT := zH (Step.refl W6)
 clear q1 q2 q3 q4 q5 q6
 refine wp_region_seq (kdOf [1, 3, 5, 6] []) [0, 1, 0, 7, 0, 31, 63, 127, 255, 255, 511, 2047] [0, 2, 4, 1, 3, 5, 6, 7, 8, 9, 10, 11] [] (by kernel_rfl) (by kernel_rfl) (fun i T z hi hk => by simp [kdOf] at hk <;> (try (split at hk <;> cases hk))) ?_
 intro Wx hWx
 have HTx := zH (HT.out.trans hWx)
 clear hWx HT
 have HT := HTx
 clear HTx
 have n0 := (HB.out.step HT.out).cell 0
 have n1 := (HB.out.step HT.out).cell 1
 have n2 := (HB.out.step HT.out).cell 2
 have n3 := (HB.out.step HT.out).cell 3
 simp only [zD, zE] at n0 n1 n2 n3
 repeat ((first | (refine run_off rfl rfl (by rfl) ?_) | (refine run_chain_off rfl rfl (by rfl) (K0_mono _) ?_) | ((refine run_want rfl rfl (by rfl) ⟨?_, fun W hW => ?_, ?_⟩; rotate_left; (· (have d0 := hW.kc n0; have d1 := hW.kc n1; have d2 := hW.kc n2; have d3 := hW.kc n3; go_simp; (try with_reducible rfl)))))); (try simp only [Act.put, zA, zB, zC]))
 clear n0 n1 n2 n3
 refine run_chain rfl rfl (by rfl) (fun Wi hWi K' hK => ?_)
 have HTi := zH (HT.out.trans hWi)
 have HZW := zH HTi.out.size
 clear hWi HT
 go_simp
 refine (Tests_any (fun _ => False) l _ _ (SL.go HV.out HTi.out) (by have := HFEW.out.1; omega)).mono ?_
 rintro e wn ⟨v1, rfl, hv1, hSn⟩
 have HT := zH (HTi.out.trans (StepX.of hSn))
 clear HTi
 have Hhv1 := zH (SL.go hv1 (Step.refl _))
 clear hv1
 refine hK _ _ (StepX.of hSn) ?_
 clear hSn
 (try simp only [Act.put, zA, zB, zC])
 have n0 := (HB.out.step HT.out).cell 0
 have n1 := (HB.out.step HT.out).cell 1
 have n2 := (HB.out.step HT.out).cell 2
 have n3 := (HB.out.step HT.out).cell 3
 simp only [zD, zE] at n0 n1 n2 n3
 repeat ((first | (refine run_off rfl rfl (by rfl) ?_) | (refine run_chain_off rfl rfl (by rfl) (K0_mono _) ?_) | ((refine run_want rfl rfl (by rfl) ⟨?_, fun W hW => ?_, ?_⟩; rotate_left; (· (have d0 := hW.kc n0; have d1 := hW.kc n1; have d2 := hW.kc n2; have d3 := hW.kc n3; go_simp; (try with_reducible rfl)))))); (try simp only [Act.put, zA, zB, zC]))
 clear n0 n1 n2 n3
 refine run_chain rfl rfl (by rfl) (fun Wi hWi K' hK => ?_)
 have HTi := zH (HT.out.trans hWi)
 have h1i := zH (SL.go Hhv1.out hWi)
 clear hWi HT Hhv1
 go_simp
 refine (Tent_any (fun _ => False) t _ _ (SL.go HU.out HTi.out) HFEW.out.2).mono ?_
 rintro e wn ⟨v2, rfl, hv2, hSn⟩
 have HT := zH (HTi.out.trans (StepX.of hSn))
 have Hhv1 := zH (SL.go h1i.out hSn)
 have HZI := zH HTi.out.size
 clear HTi h1i
 have Hhv2 := zH (SL.go hv2 (Step.refl _))
 clear hv2
 refine hK _ _ (StepX.of hSn) ?_
 clear hSn
 (try simp only [Act.put, zA, zB, zC])
 have n0 := (HB.out.step HT.out).cell 0
 have n1 := (HB.out.step HT.out).cell 1
 have n2 := (HB.out.step HT.out).cell 2
 have n3 := (HB.out.step HT.out).cell 3
 simp only [zD, zE] at n0 n1 n2 n3
 repeat ((first | (refine run_off rfl rfl (by rfl) ?_) | (refine run_chain_off rfl rfl (by rfl) (K0_mono _) ?_) | ((refine run_want rfl rfl (by rfl) ⟨?_, fun W hW => ?_, ?_⟩; rotate_left; (· (have d0 := hW.kc n0; have d1 := hW.kc n1; have d2 := hW.kc n2; have d3 := hW.kc n3; go_simp; (try with_reducible rfl)))))); (try simp only [Act.put, zA, zB, zC]))
 clear n0 n1 n2 n3
 refine run_chain rfl rfl (by rfl) (fun Wi hWi K' hK => ?_)
 have HTi := zH (HT.out.trans hWi)
 have h1i := zH (SL.go Hhv1.out hWi)
 have h2i := zH (SL.go Hhv2.out hWi)
 clear hWi HT Hhv1 Hhv2
 go_simp
 refine (SiteL_any (fun _ => False) s _ _ (AV.go HAV.out HTi.out) (by have := HSM.out; omega) (by have := HSM.out; omega) (by have := HSM.out; omega)).mono ?_
 rintro e wn ⟨v3, rfl, hv3, hSn⟩
 have HT := zH (HTi.out.trans (StepX.of hSn))
 have Hhv1 := zH (SL.go h1i.out hSn)
 have Hhv2 := zH (SL.go h2i.out hSn)
 have HZI := zH HTi.out.size
 clear HTi h1i h2i
 have Hhv3 := zH (AV.go hv3 (Step.refl _))
 clear hv3
 refine hK _ _ (StepX.of hSn) ?_
 clear hSn
 (try simp only [Act.put, zA, zB, zC])
 repeat ((first | (refine run_off rfl rfl (by rfl) ?_) | (refine run_chain_off rfl rfl (by rfl) (K0_mono _) ?_) | ((refine run_want rfl rfl (by rfl) ⟨?_, fun W hW => ?_, ?_⟩; rotate_left; (· (skip; go_simp; (try with_reducible rfl)))))); (try simp only [Act.put, zA, zB, zC]))
 refine run_chain rfl rfl (by rfl) (fun Wi hWi K' hK => ?_)
 have HTi := zH (HT.out.trans hWi)
 have hcall := zH (LimitsG_any s l t _ _ _ _ (SL.go Hhv1.out hWi) (SL.go Hhv2.out hWi) (AV.go Hhv3.out hWi))
 clear hWi HT Hhv1 Hhv2 Hhv3
 go_simp
 refine hcall.out.mono ?_
 clear hcall
 rintro e wn9 ⟨v23, rfl, hv23, hSn⟩
 obtain ⟨lc, hlc⟩ : ∃ c, c = limitsC l t s := ⟨_, rfl⟩
 obtain ⟨ll, hll⟩ : ∃ c, c = limitsR l t s := ⟨_, rfl⟩
 rw [← hll] at hv23
 rw [← hlc]
 have HLC := zH (And.intro hlc hll)
 clear hlc hll
 obtain ⟨p23, c23, rfl⟩ := hv23.form
 have HT := zH (HTi.out.trans (StepX.of hSn))
 have HLR := zH (SL.go hv23 (Step.refl _))
 clear HTi hv23
 refine hK _ _ (StepX.of hSn) ?_
 clear hSn
 (try simp only [Act.put, zA, zB, zC])
 repeat ((first | (refine run_off rfl rfl (by rfl) ?_) | (refine run_chain_off rfl rfl (by rfl) (K0_mono _) ?_) | ((refine run_want rfl rfl (by rfl) ⟨?_, fun W hW => ?_, ?_⟩; rotate_left; (· (skip; go_simp; (try with_reducible rfl)))))); (try simp only [Act.put, zA, zB, zC]))
 refine run_end (L := []) rfl (fun W7 hW6 => ?_)
 have HT6 := zH (HT.out.trans hW6)
 have HLR6 := zH (SL.go HLR.out hW6)
 clear HLR hW6 HT
 have HLR := HLR6
 have HT := HT6
 clear HLR6 HT6
 go_upto_region 5 with (fail)
 have q7 := SL.go HXR.out HT.out
 clear HXR
 have HXR := zH q7
 clear q7
 have q1 := SL.go HV.out HT.out
 have q2 := SL.go HU.out HT.out
 have q3 := AV.go HAV.out HT.out
 have q4 := SL.go HV2.out HT.out
 have q5 := HB.out.step HT.out
 have q6 := HS.out.trans HT.out
 clear HV HU HAV HV2 HB HS HT
 have HV := zH q1
 have HU := zH q2
 have HAV := zH q3
 have HV2 := zH q4
 have HB := zH q5
 have HS := zH q6
 have HT := zH (Step.refl W7)
 clear q1 q2 q3 q4 q5 q6
 (try simp only [Act.put, zA, zB, zC])
 go_cut [64] (fun c wx => c = .bool false ∧ Step W7 wx)
 case first =>
  as_aux_lemma =>
   cases hs : siteB s with
   | true =>
    have HSC := zH (show siteC s = 0 by unfold siteC; rw [hs]; rfl)
    have HSB := zH hs
    clear hs
    refine wp_region_seq (kdOf [1, 2, 5, 9, 13, 14] []) [0, 1, 3, 7, 0, 23, 63, 127, 255, 511, 1023, 2047, 4095, 8191, 16383, 32767, 65535, 131071] [0, 4, 1, 2, 3, 5, 6, 7, 8, 9, 10, 11, 12, 13, 14, 15, 16, 17] [] (by kernel_rfl) (by kernel_rfl) (fun i T z hi hk => by simp [kdOf] at hk <;> (try (split at hk <;> cases hk))) ?_
    intro Wx hWx
    have HTx := zH (HT.out.trans hWx)
    clear hWx HT
    have HT := HTx
    clear HTx
    have n0 := (HB.out.step HT.out).cell 0
    have n1 := (HB.out.step HT.out).cell 1
    have n2 := (HB.out.step HT.out).cell 2
    have n3 := (HB.out.step HT.out).cell 3
    simp only [zD, zE] at n0 n1 n2 n3
    repeat ((first | (refine run_off rfl rfl (by rfl) ?_) | (refine run_chain_off rfl rfl (by rfl) (K0_mono _) ?_) | ((refine run_want rfl rfl (by rfl) ⟨?_, fun W hW => ?_, ?_⟩; rotate_left; (· (have d0 := hW.kc n0; have d1 := hW.kc n1; have d2 := hW.kc n2; have d3 := hW.kc n3; go_simp; (try with_reducible rfl)))))); (try simp only [Act.put, zA, zB, zC]))
    clear n0 n1 n2 n3
    refine run_chain rfl rfl (by rfl) (fun Wi hWi K' hK => ?_)
    have HTi := zH (HT.out.trans hWi)
    have HZW := zH HTi.out.size
    clear hWi HT
    go_simp
    refine (SiteL_any (fun _ => False) s _ _ (AV.go HAV.out HTi.out) (by have := HSM.out; omega) (by have := HSM.out; omega) (by have := HSM.out; omega)).mono ?_
    rintro e wn ⟨v3, rfl, hv3, hSn⟩
    have HT := zH (HTi.out.trans (StepX.of hSn))
    clear HTi
    have Hhv3 := zH (AV.go hv3 (Step.refl _))
    clear hv3
    refine hK _ _ (StepX.of hSn) ?_
    clear hSn
    (try simp only [Act.put, zA, zB, zC])
    repeat ((first | (refine run_off rfl rfl (by rfl) ?_) | (refine run_chain_off rfl rfl (by rfl) (K0_mono _) ?_) | ((refine run_want rfl rfl (by rfl) ⟨?_, fun W hW => ?_, ?_⟩; rotate_left; (· (skip; go_simp; (try with_reducible rfl)))))); (try simp only [Act.put, zA, zB, zC]))
    refine run_chain rfl rfl (by rfl) (fun Wi hWi K' hK => ?_)
    have HTi := zH (HT.out.trans hWi)
    have hcall := zH (CheckSite_any s _ _ (AV.go Hhv3.out hWi))
    clear hWi HT Hhv3
    go_simp
    refine hcall.out.mono ?_
    clear hcall
    rintro e wn ⟨rfl, hSn⟩
    rw [HSC.out]
    have HT := zH (HTi.out.trans (StepX.of hSn))
    clear HTi
    refine hK _ _ (StepX.of hSn) ?_
    clear hSn
    (try simp only [Act.put, zA, zB, zC])
    have n0 := (HB.out.step HT.out).cell 0
    have n1 := (HB.out.step HT.out).cell 1
    have n2 := (HB.out.step HT.out).cell 2
    have n3 := (HB.out.step HT.out).cell 3
    simp only [zD, zE] at n0 n1 n2 n3
    repeat ((first | (refine run_off rfl rfl (by rfl) ?_) | (refine run_chain_off rfl rfl (by rfl) (K0_mono _) ?_) | ((refine run_want rfl rfl (by rfl) ⟨?_, fun W hW => ?_, ?_⟩; rotate_left; (· (have d0 := hW.kc n0; have d1 := hW.kc n1; have d2 := hW.kc n2; have d3 := hW.kc n3; go_simp; (try with_reducible rfl)))))); (try simp only [Act.put, zA, zB, zC]))
    clear n0 n1 n2 n3
    refine run_chain rfl rfl (by rfl) (fun Wi hWi K' hK => ?_)
    have HTi := zH (HT.out.trans hWi)
    have HZW := zH HTi.out.size
    clear hWi HT
    go_simp
    refine (RightS_any s _ _ (AV.go HAV.out HTi.out)).mono ?_
    rintro e wn ⟨rfl, hSn⟩
    have HT := zH (HTi.out.trans (StepX.of hSn))
    clear HTi
    rw [HSB.out]
    refine hK _ _ (StepX.of hSn) ?_
    clear hSn
    (try simp only [Act.put, zA, zB, zC])
    have n0 := (HB.out.step HT.out).cell 0
    have n1 := (HB.out.step HT.out).cell 1
    have n2 := (HB.out.step HT.out).cell 2
    have n3 := (HB.out.step HT.out).cell 3
    simp only [zD, zE] at n0 n1 n2 n3
    repeat ((first | (refine run_off rfl rfl (by rfl) ?_) | (refine run_chain_off rfl rfl (by rfl) (K0_mono _) ?_) | ((refine run_want rfl rfl (by rfl) ⟨?_, fun W hW => ?_, ?_⟩; rotate_left; (· (have d0 := hW.kc n0; have d1 := hW.kc n1; have d2 := hW.kc n2; have d3 := hW.kc n3; go_simp; (try with_reducible rfl)))))); (try simp only [Act.put, zA, zB, zC]))
    clear n0 n1 n2 n3
    refine run_chain rfl rfl (by rfl) (fun Wi hWi K' hK => ?_)
    have HTi := zH (HT.out.trans hWi)
    have HZW := zH HTi.out.size
    clear hWi HT
    go_simp
    refine (RightS_any s _ _ (AV.go HAV.out HTi.out)).mono ?_
    rintro e wn ⟨rfl, hSn⟩
    have HT := zH (HTi.out.trans (StepX.of hSn))
    clear HTi
    rw [HSB.out]
    refine hK _ _ (StepX.of hSn) ?_
    clear hSn
    (try simp only [Act.put, zA, zB, zC])
    have n0 := (HB.out.step HT.out).cell 0
    have n1 := (HB.out.step HT.out).cell 1
    have n2 := (HB.out.step HT.out).cell 2
    have n3 := (HB.out.step HT.out).cell 3
    simp only [zD, zE] at n0 n1 n2 n3
    repeat ((first | (refine run_off rfl rfl (by rfl) ?_) | (refine run_chain_off rfl rfl (by rfl) (K0_mono _) ?_) | ((refine run_want rfl rfl (by rfl) ⟨?_, fun W hW => ?_, ?_⟩; rotate_left; (· (have d0 := hW.kc n0; have d1 := hW.kc n1; have d2 := hW.kc n2; have d3 := hW.kc n3; go_simp; (try with_reducible rfl)))))); (try simp only [Act.put, zA, zB, zC]))
    clear n0 n1 n2 n3
    refine run_end (L := []) rfl (fun W6 hW6 => ?_)
    have HT6 := zH (HT.out.trans hW6)
    clear hW6
    go_wp2
    go_meet
    exact ⟨rfl, HT6.out⟩
   | false =>
    have HSC := zH (show siteC s = 1 by unfold siteC; rw [hs]; rfl)
    have HSB := zH hs
    clear hs
    refine wp_region_seq (kdOf [1, 2, 5, 9, 13, 14] []) [0, 1, 3, 7, 0, 23, 63, 127, 255, 511, 1023, 2047, 4095, 8191, 16383, 32767, 65535, 131071] [0, 4, 1, 2, 3, 5, 6, 7, 8, 9, 10, 11, 12, 13, 14, 15, 16, 17] [] (by kernel_rfl) (by kernel_rfl) (fun i T z hi hk => by simp [kdOf] at hk <;> (try (split at hk <;> cases hk))) ?_
    intro Wx hWx
    have HTx := zH (HT.out.trans hWx)
    clear hWx HT
    have HT := HTx
    clear HTx
    have n0 := (HB.out.step HT.out).cell 0
    have n1 := (HB.out.step HT.out).cell 1
    have n2 := (HB.out.step HT.out).cell 2
    have n3 := (HB.out.step HT.out).cell 3
    simp only [zD, zE] at n0 n1 n2 n3
    repeat ((first | (refine run_off rfl rfl (by rfl) ?_) | (refine run_chain_off rfl rfl (by rfl) (K0_mono _) ?_) | ((refine run_want rfl rfl (by rfl) ⟨?_, fun W hW => ?_, ?_⟩; rotate_left; (· (have d0 := hW.kc n0; have d1 := hW.kc n1; have d2 := hW.kc n2; have d3 := hW.kc n3; go_simp; (try with_reducible rfl)))))); (try simp only [Act.put, zA, zB, zC]))
    clear n0 n1 n2 n3
    refine run_chain rfl rfl (by rfl) (fun Wi hWi K' hK => ?_)
    have HTi := zH (HT.out.trans hWi)
    have HZW := zH HTi.out.size
    clear hWi HT
    go_simp
    refine (SiteL_any (fun _ => False) s _ _ (AV.go HAV.out HTi.out) (by have := HSM.out; omega) (by have := HSM.out; omega) (by have := HSM.out; omega)).mono ?_
    rintro e wn ⟨v3, rfl, hv3, hSn⟩
    have HT := zH (HTi.out.trans (StepX.of hSn))
    clear HTi
    have Hhv3 := zH (AV.go hv3 (Step.refl _))
    clear hv3
    refine hK _ _ (StepX.of hSn) ?_
    clear hSn
    (try simp only [Act.put, zA, zB, zC])
    repeat ((first | (refine run_off rfl rfl (by rfl) ?_) | (refine run_chain_off rfl rfl (by rfl) (K0_mono _) ?_) | ((refine run_want rfl rfl (by rfl) ⟨?_, fun W hW => ?_, ?_⟩; rotate_left; (· (skip; go_simp; (try with_reducible rfl)))))); (try simp only [Act.put, zA, zB, zC]))
    refine run_chain rfl rfl (by rfl) (fun Wi hWi K' hK => ?_)
    have HTi := zH (HT.out.trans hWi)
    have hcall := zH (CheckSite_any s _ _ (AV.go Hhv3.out hWi))
    clear hWi HT Hhv3
    go_simp
    refine hcall.out.mono ?_
    clear hcall
    rintro e wn ⟨rfl, hSn⟩
    rw [HSC.out]
    have HT := zH (HTi.out.trans (StepX.of hSn))
    clear HTi
    refine hK _ _ (StepX.of hSn) ?_
    clear hSn
    (try simp only [Act.put, zA, zB, zC])
    have n0 := (HB.out.step HT.out).cell 0
    have n1 := (HB.out.step HT.out).cell 1
    have n2 := (HB.out.step HT.out).cell 2
    have n3 := (HB.out.step HT.out).cell 3
    simp only [zD, zE] at n0 n1 n2 n3
    repeat ((first | (refine run_off rfl rfl (by rfl) ?_) | (refine run_chain_off rfl rfl (by rfl) (K0_mono _) ?_) | ((refine run_want rfl rfl (by rfl) ⟨?_, fun W hW => ?_, ?_⟩; rotate_left; (· (have d0 := hW.kc n0; have d1 := hW.kc n1; have d2 := hW.kc n2; have d3 := hW.kc n3; go_simp; (try with_reducible rfl)))))); (try simp only [Act.put, zA, zB, zC]))
    clear n0 n1 n2 n3
    refine run_chain rfl rfl (by rfl) (fun Wi hWi K' hK => ?_)
    have HTi := zH (HT.out.trans hWi)
    have HZW := zH HTi.out.size
    clear hWi HT
    go_simp
    refine (RightS_any s _ _ (AV.go HAV.out HTi.out)).mono ?_
    rintro e wn ⟨rfl, hSn⟩
    have HT := zH (HTi.out.trans (StepX.of hSn))
    clear HTi
    rw [HSB.out]
    refine hK _ _ (StepX.of hSn) ?_
    clear hSn
    (try simp only [Act.put, zA, zB, zC])
    have n0 := (HB.out.step HT.out).cell 0
    have n1 := (HB.out.step HT.out).cell 1
    have n2 := (HB.out.step HT.out).cell 2
    have n3 := (HB.out.step HT.out).cell 3
    simp only [zD, zE] at n0 n1 n2 n3
    repeat ((first | (refine run_off rfl rfl (by rfl) ?_) | (refine run_chain_off rfl rfl (by rfl) (K0_mono _) ?_) | ((refine run_want rfl rfl (by rfl) ⟨?_, fun W hW => ?_, ?_⟩; rotate_left; (· (have d0 := hW.kc n0; have d1 := hW.kc n1; have d2 := hW.kc n2; have d3 := hW.kc n3; go_simp; (try with_reducible rfl)))))); (try simp only [Act.put, zA, zB, zC]))
    clear n0 n1 n2 n3
    refine run_chain rfl rfl (by rfl) (fun Wi hWi K' hK => ?_)
    have HTi := zH (HT.out.trans hWi)
    have HZW := zH HTi.out.size
    clear hWi HT
    go_simp
    refine (RightS_any s _ _ (AV.go HAV.out HTi.out)).mono ?_
    rintro e wn ⟨rfl, hSn⟩
    have HT := zH (HTi.out.trans (StepX.of hSn))
    clear HTi
    rw [HSB.out]
    refine hK _ _ (StepX.of hSn) ?_
    clear hSn
    (try simp only [Act.put, zA, zB, zC])
    have n0 := (HB.out.step HT.out).cell 0
    have n1 := (HB.out.step HT.out).cell 1
    have n2 := (HB.out.step HT.out).cell 2
    have n3 := (HB.out.step HT.out).cell 3
    simp only [zD, zE] at n0 n1 n2 n3
    repeat ((first | (refine run_off rfl rfl (by rfl) ?_) | (refine run_chain_off rfl rfl (by rfl) (K0_mono _) ?_) | ((refine run_want rfl rfl (by rfl) ⟨?_, fun W hW => ?_, ?_⟩; rotate_left; (· (have d0 := hW.kc n0; have d1 := hW.kc n1; have d2 := hW.kc n2; have d3 := hW.kc n3; go_simp; (try with_reducible rfl)))))); (try simp only [Act.put, zA, zB, zC]))
    clear n0 n1 n2 n3
    refine run_chain rfl rfl (by rfl) (fun Wi hWi K' hK => ?_)
    have HTi := zH (HT.out.trans hWi)
    have HZW := zH HTi.out.size
    clear hWi HT
    go_simp
    refine (SiteL_any (fun _ => False) s _ _ (AV.go HAV.out HTi.out) (by have := HSM.out; omega) (by have := HSM.out; omega) (by have := HSM.out; omega)).mono ?_
    rintro e wn ⟨v3, rfl, hv3, hSn⟩
    have HT := zH (HTi.out.trans (StepX.of hSn))
    clear HTi
    have Hhv3 := zH (AV.go hv3 (Step.refl _))
    clear hv3
    refine hK _ _ (StepX.of hSn) ?_
    clear hSn
    (try simp only [Act.put, zA, zB, zC])
    repeat ((first | (refine run_off rfl rfl (by rfl) ?_) | (refine run_chain_off rfl rfl (by rfl) (K0_mono _) ?_) | ((refine run_want rfl rfl (by rfl) ⟨?_, fun W hW => ?_, ?_⟩; rotate_left; (· (skip; go_simp; (try with_reducible rfl)))))); (try simp only [Act.put, zA, zB, zC]))
    refine run_chain rfl rfl (by rfl) (fun Wi hWi K' hK => ?_)
    have HTi := zH (HT.out.trans hWi)
    have hcall := zH (CheckSite_any s _ _ (AV.go Hhv3.out hWi))
    clear hWi HT Hhv3
    go_simp
    refine hcall.out.mono ?_
    clear hcall
    rintro e wn ⟨rfl, hSn⟩
    rw [HSC.out]
    have HT := zH (HTi.out.trans (StepX.of hSn))
    clear HTi
    refine hK _ _ (StepX.of hSn) ?_
    clear hSn
    (try simp only [Act.put, zA, zB, zC])
    repeat ((first | (refine run_off rfl rfl (by rfl) ?_) | (refine run_chain_off rfl rfl (by rfl) (K0_mono _) ?_) | ((refine run_want rfl rfl (by rfl) ⟨?_, fun W hW => ?_, ?_⟩; rotate_left; (· (skip; go_simp; (try with_reducible rfl)))))); (try simp only [Act.put, zA, zB, zC]))
    refine run_end (L := []) rfl (fun W6 hW6 => ?_)
    have HT6 := zH (HT.out.trans hW6)
    clear hW6
    go_wp2
    go_meet
    exact ⟨rfl, HT6.out⟩
 case rest =>
  obtain ⟨rfl, hTc⟩ := hcut
  have HTn := zH (HT.out.trans hTc)
  clear hTc HT
  have HT := HTn
  clear HTn
  go_upto_region 8 with (fail)
  (try simp only [Act.put, zA, zB, zC])
  go_cut [72] (fun c wx => c = .bool (!(tentB t && siteB s)) ∧ Step W7 wx)
  case first =>
   as_aux_lemma =>
    go_wp2_with fail
    refine (Right_any (fun _ => False) t _ _ (SL.go HU.out HT.out)).mono ?_
    rintro e wn ⟨rfl, hSn⟩
    have HTi := zH (HT.out.trans hSn)
    clear hSn HT
    have HT := HTi
    clear HTi
    cases qt : tentB t with
    | false =>
     have HQT := zH qt
     clear qt
     go_wp2
     go_meet
     exact ⟨by rw [HQT.out]; rfl, HT.out⟩
    | true =>
     have HQT := zH qt
     clear qt
     have n0 := (HB.out.step HT.out).cell 0
     have n1 := (HB.out.step HT.out).cell 1
     have n2 := (HB.out.step HT.out).cell 2
     have n3 := (HB.out.step HT.out).cell 3
     simp only [zD, zE] at n0 n1 n2 n3
     go_wp2_with fail
     refine (RightS_any s _ _ (AV.go HAV.out HT.out)).mono ?_
     rintro e wn ⟨rfl, hSn⟩
     have HTi := zH (HT.out.trans hSn)
     clear hSn HT
     have HT := HTi
     clear HTi
     clear n0 n1 n2 n3
     go_wp2
     go_meet
     exact ⟨by rw [HQT.out]; simp, HT.out⟩
  case rest =>
   obtain ⟨rfl, hTc⟩ := hcut
   clear HT
   have HT := zH hTc
   clear hTc
   go_upto_if 72 with (fail)
   go_cut [13] (fun c wx => c = .int .i64 rc ∧ Step W7 wx)
   case first =>
    as_aux_lemma =>
     obtain ⟨b, hb⟩ : ∃ b, b = (tentB t && siteB s) := ⟨_, rfl⟩
     rw [← hb]
     have HBB := zH hb
     clear hb
     cases b with
     | false =>
      have HR := zH (show rc = 1 by
       rw [HRC.out.1]; unfold reefedC; rw [if_neg]
       rintro ⟨q1, q2⟩; have := HBB.out; rw [q1, q2] at this; exact absurd this (by decide))
      go_wp2
      go_meet
      exact ⟨by rw [HR.out], HT.out⟩
     | true =>
      have hbb : tentB t = true ∧ siteB s = true := by have := HBB.out.symm; simpa using this
      have hn := (site_ok hbb.2).nst
      have HRR := zH (show rc = if withinB stage 0 ((s.stages.length : Int) - 1) = true then 0 else 2 by rw [HRC.out.1]; unfold reefedC; rw [if_pos hbb])
      have hwl : IntKind.i64.wrap ((s.stages.length : Int) - 1) = (s.stages.length : Int) - 1 := by rw [IntKind.wrap_i64]; omega
      clear hbb hn
      have n0 := (HB.out.step HT.out).cell 0
      have n1 := (HB.out.step HT.out).cell 1
      have n2 := (HB.out.step HT.out).cell 2
      have n3 := (HB.out.step HT.out).cell 3
      simp only [zD, zE] at n0 n1 n2 n3
      go_wp2_with fail
      refine (bigtopref01.In_any _ _ _ _).mono ?_
      rintro e wx ⟨rfl, rfl⟩
      cases q : withinB stage 0 ((s.stages.length : Int) - 1) with
      | false =>
       have HR := zH (show rc = 2 by rw [HRR.out, if_neg (by rw [q]; decide)])
       clear q
       go_wp2
       go_meet
       exact ⟨by rw [HR.out], HT.out⟩
      | true =>
       have HR := zH (show rc = 0 by rw [HRR.out, if_pos q])
       clear q
       go_wp2
       go_meet
       exact ⟨by rw [HR.out], HT.out⟩
   case rest =>
    obtain ⟨rfl, hTc⟩ := hcut
    clear HT
    have HT := zH hTc
    clear hTc
    go_upto_region 12 with (fail)
    (try simp only [Act.put, zA, zB, zC])
    go_cut [81] (fun c wx => c = .bool (rc != 0) ∧ Step W7 wx)
    case first =>
     as_aux_lemma =>
      go_wp2
      go_meet
      exact ⟨rfl, HT.out⟩
    case rest =>
    obtain ⟨rfl, hTc⟩ := hcut
    clear HT
    have HT := zH hTc
    clear hTc
    go_upto_if 81 with (fail)
    go_cut [8] (fun c wx => c = .bool false ∧ Step W7 wx)
    case first =>
     as_aux_lemma =>
      by_cases h0 : rc = 0
      rotate_left
      ·have hd : (rc != 0) = true := by simpa using h0
       have d9 : ((rl.length : Int) != 0) = false := by
        rw [HRC.out.2, reefedC_le s t stage (by rw [← HRC.out.1]; exact h0)]; rfl
       clear h0
       go_wp2
       go_meet
       exact ⟨rfl, HT.out⟩
      subst h0
      obtain ⟨r1, r2, r3⟩ := reefed_zero HRC.out.1.symm
      have hn := (site_ok r2).nst
      have hb : 0 ≤ stage ∧ stage ≤ (s.stages.length : Int) - 1 := by simpa [withinB] using r3
      obtain ⟨n, rfl⟩ : ∃ n : Nat, stage = n := ⟨stage.toNat, by omega⟩
      have hns : n < s.stages.length := by omega
      have HCV := zH (site_cover (site_ok r2) hns).2
      have hrl : rl = reefL s.stages[n].cover t := by
       rw [HRC.out.2]; unfold reefedR coverAt
       rw [if_pos HRC.out.1.symm, Int.toNat_natCast, List.getElem?_eq_getElem hns]
      obtain ⟨q1, d1, bb, oo, he, _, _, hp, hc, _⟩ := (SL.go HV2.out HT.out).stgs
      injection he with he1 _ he3
      subst he1 he3
      obtain rfl := hp (by omega)
      obtain ⟨e1, e2⟩ := hc n hns
      have hix : (0 : Int) ≤ (n : Int) ∧ (n : Int) < (s.stages.length : Int) := by omega
      have HTB := zH r1
      obtain ⟨cv0, hcv⟩ : ∃ c, c = s.stages[n].cover := ⟨_, rfl⟩
      obtain ⟨mn0, hmn⟩ : ∃ c, c = s.stages[n].minutes := ⟨_, rfl⟩
      rw [← hcv] at e1 HCV hrl
      rw [← hmn] at e2
      have HRL := zH hrl
      clear r1 r2 r3 hn hb hp hc hcv hmn hrl hns
      have n0 := (HB.out.step HT.out).cell 0
      have n1 := (HB.out.step HT.out).cell 1
      have n2 := (HB.out.step HT.out).cell 2
      have n3 := (HB.out.step HT.out).cell 3
      simp only [zD, zE] at n0 n1 n2 n3
      go_wp2_with fail
      refine (RReefed_any ⟨cv0, mn0⟩ t _ _ (SL.go HU.out HT.out) HCV.out HTB.out).mono ?_
      rintro e wn ⟨v5, rfl, hv5, hSn⟩
      obtain ⟨p5, c5, rfl⟩ := hv5.form
      have HTi := zH (HT.out.trans hSn)
      have HV5 := zH (SL.go hv5 (Step.refl _))
      clear HT hSn hv5 e1 e2
      clear n0 n1 n2 n3
      go_wp2_with fail
      refine (Tent_any (fun _ => False) (reefL cv0 t) _ _ HV5.out (few_reef HFEW.out.2)).mono ?_
      rintro e wn2 ⟨v6, rfl, hv6, hSn⟩
      have HTj := zH (HTi.out.trans hSn)
      have HV6 := zH (SL.go hv6 (Step.refl _))
      clear HTi hSn hv6 HV5
      go_wp2_with fail
      have hts := tents_same (reefL cv0 t) _ _ _ (by rw [← HRL.out]; exact SL.go HXR.out HTj.out) HV6.out
      refine hts.mono ?_
      clear hts
      rintro e wn3 ⟨rfl, hSn⟩
      have HT := zH (HTj.out.trans hSn)
      clear HTj hSn HV6
      go_wp2
      go_meet
      exact ⟨rfl, HT.out⟩
    case rest =>
     obtain ⟨rfl, hTc⟩ := hcut
     clear HT
     have HT := zH hTc
     clear hTc HXR
     go_upto_region 17 with (fail)
     go_wp2_with fail
     refine (Fault_any (fun _ => False) l t _ _ _ (SL.go HV.out HT.out) (SL.go HU.out HT.out)).mono ?_
     rintro e wn ⟨rfl, hSn⟩
     have HTi := zH (HT.out.trans hSn)
     clear hSn HT
     have HT := HTi
     clear HTi
     obtain ⟨tw, htw⟩ : ∃ c, c = readyC l t := ⟨_, rfl⟩
     rw [← htw]
     obtain ⟨tw2, htw2⟩ : ∃ c : Int, c = if readyC l t = 0 ∧ siteB s = false then 1 else readyC l t := ⟨_, rfl⟩
     have HTW := zH (And.intro htw htw2)
     clear htw htw2
     go_upto_region 18 with (fail)
     (try simp only [Act.put, zA, zB, zC])
     go_cut [114] (fun c wx => c = .bool (decide (tw = 0) && !siteB s) ∧ Step W7 wx)
     case first =>
      as_aux_lemma =>
       by_cases h : tw = 0
       ·have hd : (tw == 0) = true := by simpa using h
        have HH := zH h
        clear h
        have n0 := (HB.out.step HT.out).cell 0
        have n1 := (HB.out.step HT.out).cell 1
        have n2 := (HB.out.step HT.out).cell 2
        have n3 := (HB.out.step HT.out).cell 3
        simp only [zD, zE] at n0 n1 n2 n3
        go_wp2_with fail
        refine (RightS_any s _ _ (AV.go HAV.out HT.out)).mono ?_
        rintro e wn ⟨rfl, hSn⟩
        have HTi := zH (HT.out.trans hSn)
        clear hSn HT
        have HT := HTi
        clear HTi
        clear n0 n1 n2 n3
        go_wp2
        go_meet
        exact ⟨by rw [decide_eq_true HH.out]; rfl, HT.out⟩
       ·have hd : (tw == 0) = false := by simpa using h
        have HH := zH h
        clear h
        go_wp2
        go_meet
        exact ⟨by rw [decide_eq_false HH.out]; rfl, HT.out⟩
     case rest =>
     obtain ⟨rfl, hTc⟩ := hcut
     clear HT
     have HT := zH hTc
     clear hTc
     go_upto_if 114 with (fail)
     go_cut [14] (fun c wx => c = .int .i64 tw2 ∧ Step W7 wx)
     case first =>
      as_aux_lemma =>
       obtain ⟨b, hb⟩ : ∃ b, b = (decide (tw = 0) && !siteB s) := ⟨_, rfl⟩
       rw [← hb]
       have HBB := zH hb
       clear hb
       cases b with
       | true =>
        have HR := zH (show tw2 = 1 by
         have := HBB.out.symm
         simp only [Bool.and_eq_true, decide_eq_true_eq, Bool.not_eq_true'] at this
         rw [HTW.out.2, if_pos ⟨by rw [← HTW.out.1]; exact this.1, this.2⟩])
        go_wp2
        go_meet
        exact ⟨by rw [HR.out], HT.out⟩
       | false =>
        have HR := zH (show tw2 = tw by
         rw [HTW.out.2, if_neg, ← HTW.out.1]
         rintro ⟨q1, q2⟩
         have := HBB.out
         rw [HTW.out.1, decide_eq_true q1, q2] at this
         exact absurd this (by decide))
        go_wp2
        go_meet
        exact ⟨by rw [HR.out], HT.out⟩
     case rest =>
     obtain ⟨rfl, hTc⟩ := hcut
     clear HT
     have HT := zH hTc
     clear hTc
     have HL2 := zH (limitsC_two HLC.out.1 HTW.out.2)
     clear HTW
     go_upto_region 20 with (fail)
     go_wp2_with fail
     refine (ClashG_any l _ _ (SL.go HV.out HT.out)).mono ?_
     rintro e wn ⟨ci, cj, rfl, hcl, hSn⟩
     have HTi := zH (HT.out.trans hSn)
     clear hSn HT
     have HT := HTi
     clear HTi
     have HCL := zH hcl
     clear hcl
     go_upto_region 21 with (fail)
     (try simp only [Act.put, zA, zB, zC])
     go_cut [125] (fun c wx => c = .bool (decide (tw2 = 0) && decide (0 ≤ ci)) ∧ Step W7 wx)
     case first =>
      as_aux_lemma =>
       by_cases h : tw2 = 0
       ·have hd : (tw2 == 0) = true := by simpa using h
        have HH := zH h
        clear h
        go_wp2
        go_meet
        exact ⟨by rw [decide_eq_true HH.out]; rfl, HT.out⟩
       ·have hd : (tw2 == 0) = false := by simpa using h
        have HH := zH h
        clear h
        go_wp2
        go_meet
        exact ⟨by rw [decide_eq_false HH.out]; rfl, HT.out⟩
     case rest =>
     obtain ⟨rfl, hTc⟩ := hcut
     clear HT
     have HT := zH hTc
     clear hTc
     go_upto_if 125 with (fail)
     go_cut [14] (fun c wx => c = .int .i64 lc ∧ Step W7 wx)
     case first =>
      as_aux_lemma =>
       obtain ⟨b, hb⟩ : ∃ b, b = (decide (tw2 = 0) && decide (0 ≤ ci)) := ⟨_, rfl⟩
       rw [← hb]
       have HBB := zH hb
       clear hb
       cases b with
       | true =>
        have HR := zH (show lc = 9 by
         have := HBB.out.symm
         simp only [Bool.and_eq_true] at this
         obtain ⟨a1, _, _, _, a5⟩ := HL2.out.2 (of_decide_eq_true this.1)
         have hc := HCL.out a1
         rw [this.2] at hc
         rw [a5]; unfold soundC; rw [← hc]; rfl)
        go_wp2
        go_meet
        exact ⟨by rw [HR.out], HT.out⟩
       | false =>
        have HR := zH (show lc = tw2 by
         by_cases h : tw2 = 0
         ·obtain ⟨a1, _, _, _, a5⟩ := HL2.out.2 h
          have hc := HCL.out a1
          have := HBB.out
          rw [decide_eq_true h, Bool.true_and] at this
          rw [← this] at hc
          rw [a5, h]; unfold soundC; rw [← hc]; rfl
         ·exact HL2.out.1 h)
        go_wp2
        go_meet
        exact ⟨by rw [HR.out], HT.out⟩
     case rest =>
     obtain ⟨rfl, hTc⟩ := hcut
     clear HT
     have HT := zH hTc
     clear hTc HCL
     go_upto_region 23 with (fail)
     by_cases h0 : lc = 0
     rotate_left
     ·have hd : (lc != 0) = true := by simpa using h0
      have d9 : ((ll.length : Int) == 0) = true := by
       rw [HLC.out.2, limitsC_le l t s (by rw [← HLC.out.1]; exact h0)]; rfl
      clear h0
      go_wp2_with fail
      refine (gwakes_any _).mono ?_
      rintro e wz ⟨rfl, hSz⟩
      go_wp2
      go_ret
      exact ⟨rfl, HS.out.trans (HT.out.trans hSz)⟩
     subst h0
     obtain ⟨r1, r2, r3, r4⟩ := limits_zero HLC.out.1.symm
     have hll : ll = limitsL l t s := by rw [HLC.out.2]; unfold limitsR; rw [if_pos HLC.out.1.symm]
     have hlen : ll.length = s.stages.length := by rw [hll]; simp [limitsL]
     have hd2 : ((ll.length : Int) != (s.stages.length : Int)) = false := by rw [hlen]; simp
     have HLL := zH (And.intro hll hlen)
     have HOK := zH (And.intro r1 (And.intro r2 r3))
     have hll2 := HLR.out.len
     clear r1 r2 r3 r4 hll hlen
     have n0 := (HB.out.step HT.out).cell 0
     have n1 := (HB.out.step HT.out).cell 1
     have n2 := (HB.out.step HT.out).cell 2
     have n3 := (HB.out.step HT.out).cell 3
     simp only [zD, zE] at n0 n1 n2 n3
     go_upto_region 27 with (fail)
     clear n0 n1 n2 n3
     go_wp2
     clear hd2
     go_loopw [17] (fun i wr => ∃ k : Nat, k ≤ ll.length ∧ i = .int .i64 k ∧ Step W7 wr) (fun i _ => ll.length - (intOf i).toNat)
     case atStart => exact ⟨0, Nat.zero_le _, rfl, HT.out⟩
     case round =>
      obtain ⟨k, hk, rfl, hT⟩ := hrel
      clear HT
      have HTL := zH hT
      clear hT
      by_cases hlt : k < ll.length
      rotate_left
      ·have HT := HTL
       clear HTL hk
       go_wp2_with fail
       refine (gwakes_any _).mono ?_
       rintro e wz ⟨rfl, hSz⟩
       go_wp2
       go_ret
       exact ⟨rfl, HS.out.trans (HT.out.trans hSz)⟩
      obtain ⟨q1, d1, bb, oo, he, _, _, hp, hc, _⟩ := (SL.go HLR.out HTL.out).ints
      injection he with he1 _ he3
      subst he1 he3
      obtain rfl := hp (by omega)
      have e0 := hc k hlt
      have hix : (0 : Int) ≤ (k : Int) ∧ (k : Int) < (ll.length : Int) := by omega
      have HKS := zH (show k < s.stages.length by have := HLL.out.2; omega)
      have hla : ll[k] = limitAt l t s k := by
       unfold limitAt; rw [← HLL.out.1, List.getD_eq_getElem?_getD, List.getElem?_eq_getElem hlt]; rfl
      rw [hla] at e0
      have HE := zH e0
      clear hp hc hla e0
      go_upto_region 30 with (fail)
      obtain ⟨wo, hwo⟩ : ∃ W, W = wr := ⟨_, rfl⟩
      subst hwo
      have HT := zH (Step.refl wo)
      have HB0 := HB
      clear HB
      have HB := zH (HB0.out.step HTL.out)
      refine wp_region_seq (kdOf [8] []) [0, 0, 3, 7, 0, 0, 0, 0, 240, 511] [0, 1, 2, 3, 4, 5, 6, 7, 8, 9] [] (by kernel_rfl) (by kernel_rfl) (fun i T z hi hk => by simp [kdOf] at hk <;> (try (split at hk <;> cases hk))) ?_
      intro Wx hWx
      have HTx := zH (HT.out.trans hWx)
      clear hWx HT
      have HT := HTx
      clear HTx
      have e0 := HT.out.kc HE.out
      have n0 := (HB.out.step HT.out).cell 0
      have n1 := (HB.out.step HT.out).cell 1
      have n2 := (HB.out.step HT.out).cell 2
      have n3 := (HB.out.step HT.out).cell 3
      simp only [zD, zE] at n0 n1 n2 n3
      repeat ((first | (refine run_off rfl rfl (by rfl) ?_) | (refine run_chain_off rfl rfl (by rfl) (K0_mono _) ?_) | ((refine run_want rfl rfl (by rfl) ⟨?_, fun W hW => ?_, ?_⟩; rotate_left; (· (have d0 := hW.kc e0; have d1 := hW.kc n0; have d2 := hW.kc n1; have d3 := hW.kc n2; have d4 := hW.kc n3; go_simp; (try with_reducible rfl)))))); (try simp only [Act.put, zA, zB, zC]))
      clear n0 n1 n2 n3
      clear e0
      refine run_chain rfl rfl (by rfl) (fun Wi hWi K' hK => ?_)
      have HTi := zH (HT.out.trans hWi)
      have HZW := zH HTi.out.size
      clear hWi HT
      go_simp
      refine (RLimit_any s l t k _ _ _ _ (SL.go HV.out (HTL.out.trans HTi.out)) (SL.go HU.out (HTL.out.trans HTi.out)) (AV.go HAV.out (HTL.out.trans HTi.out)) HOK.out.2.2 HOK.out.1 HOK.out.2.1 HKS.out).mono ?_
      rintro e wn ⟨rfl, hSn⟩
      have HT := zH (HTi.out.trans (StepX.of hSn))
      clear HTi
      refine hK _ _ (StepX.of hSn) ?_
      clear hSn
      (try simp only [Act.put, zA, zB, zC])
      have e0 := HT.out.kc HE.out
      repeat ((first | (refine run_off rfl rfl (by rfl) ?_) | (refine run_chain_off rfl rfl (by rfl) (K0_mono _) ?_) | ((refine run_want rfl rfl (by rfl) ⟨?_, fun W hW => ?_, ?_⟩; rotate_left; (· (have d0 := hW.kc e0; go_simp; (try with_reducible rfl)))))); (try simp only [Act.put, zA, zB, zC]))
      clear e0
      refine run_end (L := []) rfl (fun W6 hW6 => ?_)
      have HT6 := zH (HT.out.trans hW6)
      have HTZ := zH (HTL.out.trans HT6.out)
      clear hW6 HT HT6 HTL
      go_wp2
      go_roundw
      case rel => exact ⟨k + 1, by omega, by go_num, HTZ.out⟩
      case measure => simp [intOf]; omega
end Go.Proofs.YtfhmdpicoccnfaaGreat
