/- Walks and plain laws, part l. -/
import Derived.Test.YtfhmdpicoccnfaaGreatMa
import Derived.Test.YtfhmdpicoccnfaaGreatMc
import Derived.Test.YtfhmdpicoccnfaaGreatMj
import Derived.Test.YtfhmdpicoccnfaaGreatRows
set_option maxHeartbeats 16000000
set_option maxRecDepth 100000
set_option linter.unusedVariables false
set_option linter.unusedSimpArgs false
namespace Go.BT
set_option linter.unusedVariables false
theorem stand_bare (l : List Tst) (t : List Head) (wind : List Vec) : standB l (reefL 0 t) wind = true := by
 unfold standB reefL
 rw [List.all_map, List.all_eq_true]
 intro h _
 simp only [Function.comp_apply, standH, List.all_eq_true]
 intro v _
 have e : (reefH 0 h).area = 0 := by unfold reefH reefA; simp
 rw [e, balL_iff]
 intro w
 rw [dot_times, Int.zero_mul]
 exact help_nonneg _ w
def limAtL (l : List Tst) (t : List Head) (s : Site) (i : Nat) : Int := (limitsL l t s).getD i 0
theorem reefs_level {l : List Tst} {t : List Head} {s : Site} (hs : SiteOk s) {i k : Nat} (hi : i < s.stages.length) (hk : k < s.levels.length) (hp : ∀ j (hj : j < k) (hl : j < s.levels.length), s.levels[j].upto ≤ limAtL l t s i) :
  (limAtL l t s i < s.levels[k].upto → standB l (reefL s.stages[i].cover t) (blowL s.base s.levels[k].push) = false) ∧ (s.levels[k].upto ≤ limAtL l t s i → standB l (reefL s.stages[i].cover t) (blowL s.base s.levels[k].push) = true) := by
 have he : limAtL l t s i = limitL l t s s.stages[i].cover := by
  unfold limAtL limitsL; rw [List.getD_eq_getElem?_getD, List.getElem?_map, List.getElem?_eq_getElem hi]; rfl
 have hup := hs.lev k hk
 rw [he] at hp ⊢
 by_cases hc : s.stages[i].cover = 0
 ·rw [hc]
  refine ⟨fun h => ?_, fun _ => stand_bare l t _⟩
  unfold limitL at h
  rw [if_pos rfl] at h
  omega
 ·unfold limitL at hp ⊢
  rw [if_neg hc] at hp ⊢
  obtain ⟨n, hn⟩ : ∃ n, n = standN l (reefL s.stages[i].cover t) s.base s.levels := ⟨_, rfl⟩
  have hle := standN_le (l := l) (t := reefL s.stages[i].cover t) (base := s.base) s.levels
  rw [← hn] at hp hle ⊢
  cases n with
  | zero =>
   simp only [uptoN] at hp ⊢
   have h0 : k = 0 := by
    rcases Nat.eq_zero_or_pos k with h | h
    ·exact h
    ·have := hp 0 h (by omega)
     have := hs.lev 0 (by omega)
     omega
   subst h0
   refine ⟨fun _ => standN_end s.levels 0 hk hn, fun h => by omega⟩
  | succ n =>
   simp only [uptoN, List.getElem?_eq_getElem (show n < s.levels.length by omega)] at hp ⊢
   refine ⟨fun h => ?_, fun h => standN_at s.levels k hk ?_⟩
   ·have h1 : n < k := by
     apply Decidable.byContradiction
     intro q
     have := upto_lt hs (m := k) (n := n) (by omega) (by omega)
     omega
    have h2 : k = n + 1 := by
     apply Decidable.byContradiction
     intro q
     have h3 := hp (n + 1) (by omega) (by omega)
     have := hs.rise n (by omega)
     omega
    subst h2
    exact standN_end s.levels (n + 1) hk hn
   ·rw [← hn]
    apply Decidable.byContradiction
    intro q
    have h3 := upto_lt hs (m := n + 1) (n := k) hk (by omega)
    have := hs.rise n (by omega)
    omega
end Go.BT
namespace Go.BT
theorem areasJ {t : List Head} (h : tentB t = true) : ∀ x ∈ t, 0 ≤ x.area := by
 intro x hx
 have := List.all_eq_true.1 (by unfold tentB at h; exact (Bool.and_eq_true_iff.1 h).2) x hx
 simp only [headB, Bool.and_eq_true, withinB, decide_eq_true_eq] at this
 exact this.1.1.1.1
theorem ready_zero {l : List Tst} {t : List Head} (h : readyC l t = 0) : testsC l = 0 ∧ tentB t = true := by
 unfold readyC at h
 split at h
 ·rename_i ht
  refine ⟨ht, ?_⟩
  unfold tentC at h
  split at h
  ·assumption
  ·simp at h
 ·rename_i ht; exact absurd h ht
theorem site_levels {S : Nat → Prop} {w : World} {a b c d : Value} {s : Site} (h : AV S w (.agg #[a, b, c, d]) s) : SL S w b s.levels := by
 obtain ⟨c0, c1, c2, he, h0, h1, h2⟩ := h.site
 simp at he
 obtain ⟨_, rfl, _, _⟩ := he
 exact h1
end Go.BT
namespace Go.Proofs.YtfhmdpicoccnfaaGreat
set_option linter.unusedSimpArgs false
set_option linter.unusedVariables false
open Go.RowKit Go.BT
theorem weakR_le {l : List Tst} {t : List Head} {wind : List Vec} (h : blownC l t wind = 0) : decide ((weakR l t wind).1 < 0) = standB l t wind := by
 unfold weakR
 rw [if_pos h]
 have := (weakP_iff (l := l) (t := t) (wind := wind)).1
 cases q : standB l t wind with
 | true => rw [decide_eq_true_eq]; exact this.2 q
 | false => rw [decide_eq_false_iff_not]; exact fun h => by rw [q] at this; exact absurd (this.1 h) (by decide)
theorem GaleReefs_any (l : List Tst) (t : List Head) (s : Site) (v u x : Value) (w : World) (hv : SL (fun _ => False) w v l) (hu : SL (fun _ => False) w u t) (hx : AV (fun _ => False) w x s) :
  Calls Tryz.prog 3 #[v, u, x] w fun e w' => e = .returned (.bool true) ∧ Step w w' := by
 obtain ⟨c0, c1, c2, rfl, h0, h1, h2⟩ := hx.site
 obtain ⟨p0, k0, rfl⟩ := h0.form
 obtain ⟨p1, k1, rfl⟩ := h1.form
 obtain ⟨p2, k2, rfl⟩ := h2.form
 obtain ⟨W0, hW0⟩ : ∃ W, W = w.alloc (.cells #[.slice p0 s.base.length k0, .slice p1 s.levels.length k1, .slice p2 s.stages.length k2, .int .i64 s.openS] 29) := ⟨_, rfl⟩
 have hS : Step w W0 := by subst hW0; exact Step.alloc _ _
 have HB := zH (show Bx W0 w.heap.size [.slice p0 s.base.length k0, .slice p1 s.levels.length k1, .slice p2 s.stages.length k2, .int .i64 s.openS] 29 by subst hW0; exact Bx.new w [_, _, _, _] _)
 have HV := zH (SL.go hv hS)
 have HU := zH (SL.go hu hS)
 have HAV := zH (AV.go hx hS)
 have HV2 := zH (SL.go h2 hS)
 have HS := zH hS
 have HT := zH (Step.refl W0)
 have HW := zH hW0
 obtain ⟨pv, cv, rfl⟩ := hv.form
 obtain ⟨pu, cu, rfl⟩ := hu.form
 clear hS hW0 hv hu hx h0 h1 h2
 go_enter Tryz.func3, Tryz.ntmps3
 go_upto_region 1 with (fail)
 rw [← HW.out]
 go_wp2_with fail
 refine (Few_any (fun _ => False) l t _ _ _ (SL.go HV.out HT.out) (SL.go HU.out HT.out)).mono ?_
 rintro e wn ⟨rfl, hSn⟩
 have HTi := zH (HT.out.trans hSn)
 clear hSn HT
 have HT := HTi
 clear HTi
 cases qf : few l t with
 | false =>
  clear qf
  go_wp2_with fail
  refine (gwakes_any _).mono ?_
  rintro e wz ⟨rfl, hSz⟩
  go_wp2
  go_ret
  exact ⟨rfl, HS.out.trans (HT.out.trans hSz)⟩
 | true =>
 have HFEW := zH (few_of qf)
 clear qf
 have n0 := (HB.out.step HT.out).cell 0
 have n1 := (HB.out.step HT.out).cell 1
 have n2 := (HB.out.step HT.out).cell 2
 have n3 := (HB.out.step HT.out).cell 3
 simp only [zD, zE] at n0 n1 n2 n3
 go_wp2_with fail
 refine (smallSite_any (fun _ => False) s _ _ (AV.go HAV.out HT.out)).mono ?_
 rintro e wn ⟨rfl, hSn⟩
 have HTi := zH (HT.out.trans hSn)
 clear hSn HT
 have HT := HTi
 clear HTi
 clear n0 n1 n2 n3
 cases qs : smallB s with
 | false =>
  clear qs
  go_wp2_with fail
  refine (gwakes_any _).mono ?_
  rintro e wz ⟨rfl, hSz⟩
  go_wp2
  go_ret
  exact ⟨rfl, HS.out.trans (HT.out.trans hSz)⟩
 | true =>
 have HSM := zH (show s.base.length ≤ 15 ∧ s.levels.length ≤ 15 ∧ s.stages.length ≤ 15 by
  simp only [smallB, Bool.and_eq_true, decide_eq_true_eq] at qs; exact ⟨qs.1.1, qs.1.2, qs.2⟩)
 clear qs
 have n0 := (HB.out.step HT.out).cell 0
 have n1 := (HB.out.step HT.out).cell 1
 have n2 := (HB.out.step HT.out).cell 2
 have n3 := (HB.out.step HT.out).cell 3
 simp only [zD, zE] at n0 n1 n2 n3
 go_wp2_with fail
 refine (RightS_any s _ _ (AV.go HAV.out HT.out)).mono ?_
 rintro e wn ⟨rfl, hSn⟩
 have HTi := zH (HT.out.trans hSn)
 clear hSn HT
 have HT := HTi
 clear HTi
 clear n0 n1 n2 n3
 cases qs : siteB s with
 | false =>
  clear qs
  go_wp2_with fail
  refine (gwakes_any _).mono ?_
  rintro e wz ⟨rfl, hSz⟩
  go_wp2
  go_ret
  exact ⟨rfl, HS.out.trans (HT.out.trans hSz)⟩
 | true =>
 have HSB := zH qs
 clear qs
 go_wp2_with fail
 refine (Fault_any (fun _ => False) l t _ _ _ (SL.go HV.out HT.out) (SL.go HU.out HT.out)).mono ?_
 rintro e wn ⟨rfl, hSn⟩
 have HTi := zH (HT.out.trans hSn)
 clear hSn HT
 have HT := HTi
 clear HTi
 obtain ⟨tw, htw⟩ : ∃ c, c = readyC l t := ⟨_, rfl⟩
 rw [← htw]
 have HTW := zH htw
 clear htw
 by_cases h0 : tw = 0
 rotate_left
 ·have hd : (tw != 0) = true := by simpa using h0
  clear h0
  go_wp2_with fail
  refine (gwakes_any _).mono ?_
  rintro e wz ⟨rfl, hSz⟩
  go_wp2
  go_ret
  exact ⟨rfl, HS.out.trans (HT.out.trans hSz)⟩
 subst h0
 have HRD := zH (ready_zero HTW.out.symm)
 clear HTW
 go_upto_region 3 with (fail)
 have q1 := SL.go HV.out HT.out
 have q2 := SL.go HU.out HT.out
 have q3 := AV.go HAV.out HT.out
 have q4 := SL.go HV2.out HT.out
 have q5 := HB.out.step HT.out
 have q6 := HS.out.trans HT.out
 clear HV HU HAV HV2 HB HS HT
 have HV := zH q1
 have HU := zH q2
 have HAV := zH q3
 have HV2 := zH q4
 have HB := zH q5
 have HS := zH q6
 have HT := zH (Step.refl wn)
 clear q1 q2 q3 q4 q5 q6
 refine wp_region_seq (kdOf [1, 3, 5, 6] []) [0, 1, 0, 7, 0, 31, 63, 127, 255, 255, 511, 2047] [0, 2, 4, 1, 3, 5, 6, 7, 8, 9, 10, 11] [] (by kernel_rfl) (by kernel_rfl) (fun i T z hi hk => by simp [kdOf] at hk <;> (try (split at hk <;> cases hk))) ?_
 intro Wx hWx
 have HTx := zH (HT.out.trans hWx)
 clear hWx HT
 have HT := HTx
 clear HTx
 have n0 := (HB.out.step HT.out).cell 0
 have n1 := (HB.out.step HT.out).cell 1
 have n2 := (HB.out.step HT.out).cell 2
 have n3 := (HB.out.step HT.out).cell 3
 simp only [zD, zE] at n0 n1 n2 n3
 repeat ((first | (refine run_off rfl rfl (by rfl) ?_) | (refine run_chain_off rfl rfl (by rfl) (K0_mono _) ?_) | ((refine run_want rfl rfl (by rfl) ⟨?_, fun W hW => ?_, ?_⟩; rotate_left; (· (have d0 := hW.kc n0; have d1 := hW.kc n1; have d2 := hW.kc n2; have d3 := hW.kc n3; go_simp; (try with_reducible rfl)))))); (try simp only [Act.put, zA, zB, zC]))
 clear n0 n1 n2 n3
 refine run_chain rfl rfl (by rfl) (fun Wi hWi K' hK => ?_)
 have HTi := zH (HT.out.trans hWi)
 have HZW := zH HTi.out.size
 clear hWi HT
 go_simp
 refine (Tests_any (fun _ => False) l _ _ (SL.go HV.out HTi.out) (by have := HFEW.out.1; omega)).mono ?_
 rintro e wn ⟨v1, rfl, hv1, hSn⟩
 have HT := zH (HTi.out.trans (StepX.of hSn))
 clear HTi
 have Hhv1 := zH (SL.go hv1 (Step.refl _))
 clear hv1
 refine hK _ _ (StepX.of hSn) ?_
 clear hSn
 (try simp only [Act.put, zA, zB, zC])
 have n0 := (HB.out.step HT.out).cell 0
 have n1 := (HB.out.step HT.out).cell 1
 have n2 := (HB.out.step HT.out).cell 2
 have n3 := (HB.out.step HT.out).cell 3
 simp only [zD, zE] at n0 n1 n2 n3
 repeat ((first | (refine run_off rfl rfl (by rfl) ?_) | (refine run_chain_off rfl rfl (by rfl) (K0_mono _) ?_) | ((refine run_want rfl rfl (by rfl) ⟨?_, fun W hW => ?_, ?_⟩; rotate_left; (· (have d0 := hW.kc n0; have d1 := hW.kc n1; have d2 := hW.kc n2; have d3 := hW.kc n3; go_simp; (try with_reducible rfl)))))); (try simp only [Act.put, zA, zB, zC]))
 clear n0 n1 n2 n3
 refine run_chain rfl rfl (by rfl) (fun Wi hWi K' hK => ?_)
 have HTi := zH (HT.out.trans hWi)
 have h1i := zH (SL.go Hhv1.out hWi)
 clear hWi HT Hhv1
 go_simp
 refine (Tent_any (fun _ => False) t _ _ (SL.go HU.out HTi.out) HFEW.out.2).mono ?_
 rintro e wn ⟨v2, rfl, hv2, hSn⟩
 have HT := zH (HTi.out.trans (StepX.of hSn))
 have Hhv1 := zH (SL.go h1i.out hSn)
 have HZI := zH HTi.out.size
 clear HTi h1i
 have Hhv2 := zH (SL.go hv2 (Step.refl _))
 clear hv2
 refine hK _ _ (StepX.of hSn) ?_
 clear hSn
 (try simp only [Act.put, zA, zB, zC])
 have n0 := (HB.out.step HT.out).cell 0
 have n1 := (HB.out.step HT.out).cell 1
 have n2 := (HB.out.step HT.out).cell 2
 have n3 := (HB.out.step HT.out).cell 3
 simp only [zD, zE] at n0 n1 n2 n3
 repeat ((first | (refine run_off rfl rfl (by rfl) ?_) | (refine run_chain_off rfl rfl (by rfl) (K0_mono _) ?_) | ((refine run_want rfl rfl (by rfl) ⟨?_, fun W hW => ?_, ?_⟩; rotate_left; (· (have d0 := hW.kc n0; have d1 := hW.kc n1; have d2 := hW.kc n2; have d3 := hW.kc n3; go_simp; (try with_reducible rfl)))))); (try simp only [Act.put, zA, zB, zC]))
 clear n0 n1 n2 n3
 refine run_chain rfl rfl (by rfl) (fun Wi hWi K' hK => ?_)
 have HTi := zH (HT.out.trans hWi)
 have h1i := zH (SL.go Hhv1.out hWi)
 have h2i := zH (SL.go Hhv2.out hWi)
 clear hWi HT Hhv1 Hhv2
 go_simp
 refine (SiteL_any (fun _ => False) s _ _ (AV.go HAV.out HTi.out) (by have := HSM.out; omega) (by have := HSM.out; omega) (by have := HSM.out; omega)).mono ?_
 rintro e wn ⟨v3, rfl, hv3, hSn⟩
 have HT := zH (HTi.out.trans (StepX.of hSn))
 have Hhv1 := zH (SL.go h1i.out hSn)
 have Hhv2 := zH (SL.go h2i.out hSn)
 have HZI := zH HTi.out.size
 clear HTi h1i h2i
 have Hhv3 := zH (AV.go hv3 (Step.refl _))
 clear hv3
 refine hK _ _ (StepX.of hSn) ?_
 clear hSn
 (try simp only [Act.put, zA, zB, zC])
 repeat ((first | (refine run_off rfl rfl (by rfl) ?_) | (refine run_chain_off rfl rfl (by rfl) (K0_mono _) ?_) | ((refine run_want rfl rfl (by rfl) ⟨?_, fun W hW => ?_, ?_⟩; rotate_left; (· (skip; go_simp; (try with_reducible rfl)))))); (try simp only [Act.put, zA, zB, zC]))
 refine run_chain rfl rfl (by rfl) (fun Wi hWi K' hK => ?_)
 have HTi := zH (HT.out.trans hWi)
 have hcall := zH (LimitsG_any s l t _ _ _ _ (SL.go Hhv1.out hWi) (SL.go Hhv2.out hWi) (AV.go Hhv3.out hWi))
 clear hWi HT Hhv1 Hhv2 Hhv3
 go_simp
 refine hcall.out.mono ?_
 clear hcall
 rintro e wn9 ⟨v23, rfl, hv23, hSn⟩
 obtain ⟨lc, hlc⟩ : ∃ c, c = limitsC l t s := ⟨_, rfl⟩
 obtain ⟨ll, hll⟩ : ∃ c, c = limitsR l t s := ⟨_, rfl⟩
 rw [← hll] at hv23
 rw [← hlc]
 have HLC := zH (And.intro hlc hll)
 clear hlc hll
 obtain ⟨p23, c23, rfl⟩ := hv23.form
 have HT := zH (HTi.out.trans (StepX.of hSn))
 have HLR := zH (SL.go hv23 (Step.refl _))
 clear HTi hv23
 refine hK _ _ (StepX.of hSn) ?_
 clear hSn
 (try simp only [Act.put, zA, zB, zC])
 repeat ((first | (refine run_off rfl rfl (by rfl) ?_) | (refine run_chain_off rfl rfl (by rfl) (K0_mono _) ?_) | ((refine run_want rfl rfl (by rfl) ⟨?_, fun W hW => ?_, ?_⟩; rotate_left; (· (skip; go_simp; (try with_reducible rfl)))))); (try simp only [Act.put, zA, zB, zC]))
 refine run_end (L := []) rfl (fun W7 hW6 => ?_)
 have HT6 := zH (HT.out.trans hW6)
 have HLR6 := zH (SL.go HLR.out hW6)
 clear HLR hW6 HT
 have HLR := HLR6
 have HT := HT6
 clear HLR6 HT6
 have q1 := SL.go HV.out HT.out
 have q2 := SL.go HU.out HT.out
 have q3 := AV.go HAV.out HT.out
 have q4 := SL.go HV2.out HT.out
 have q5 := HB.out.step HT.out
 have q6 := HS.out.trans HT.out
 clear HV HU HAV HV2 HB HS HT
 have HV := zH q1
 have HU := zH q2
 have HAV := zH q3
 have HV2 := zH q4
 have HB := zH q5
 have HS := zH q6
 have HT := zH (Step.refl W7)
 clear q1 q2 q3 q4 q5 q6
 have HLS := zH (show lc = soundC l by
  rw [HLC.out.1]; unfold limitsC; rw [if_pos HRD.out.1, if_pos ⟨HRD.out.2, HSB.out⟩])
 have HLVS := zH (site_levels HAV.out)
 go_upto_region 4 with (fail)
 by_cases h0 : lc = 0
 rotate_left
 ·have hd : (lc != 0) = true := by simpa using h0
  have h9 : lc = 9 := by
   have := HLS.out
   unfold soundC at this
   split at this
   ·exact this
   ·exact absurd this h0
  clear h0
  subst h9
  go_wp2_with fail
  refine (gwakes_any _).mono ?_
  rintro e wz ⟨rfl, hSz⟩
  go_wp2
  go_ret
  exact ⟨rfl, HS.out.trans (HT.out.trans hSz)⟩
 subst h0
 have hll : ll = limitsL l t s := by rw [HLC.out.2]; unfold limitsR; rw [if_pos HLC.out.1.symm]
 have hlen : ll.length = s.stages.length := by rw [hll]; simp [limitsL]
 have hd2 : ((ll.length : Int) != (s.stages.length : Int)) = false := by rw [hlen]; simp
 have HLP := zH (limited_parts (limits_limited (l := l) (t := t) HSB.out (areasJ HRD.out.2))).2.2.1
 have HLL := zH (And.intro hll hlen)
 have HOK := zH (site_ok HSB.out)
 have HSD := zH HLS.out.symm
 have hll2 := HLR.out.len
 clear hll hlen
 have n0 := (HB.out.step HT.out).cell 0
 have n1 := (HB.out.step HT.out).cell 1
 have n2 := (HB.out.step HT.out).cell 2
 have n3 := (HB.out.step HT.out).cell 3
 simp only [zD, zE] at n0 n1 n2 n3
 go_upto_region 8 with (fail)
 clear n0 n1 n2 n3
 go_wp2
 clear hd2
 go_loopw [9] (fun i wr => ∃ k : Nat, k ≤ ll.length ∧ i = .int .i64 k ∧ Step W7 wr) (fun i _ => ll.length - (intOf i).toNat)
 case atStart => exact ⟨0, Nat.zero_le _, rfl, HT.out⟩
 case round =>
  obtain ⟨i, hk, rfl, hT⟩ := hrel
  clear HT
  have HT := zH hT
  clear hT
  by_cases hlt : i < ll.length
  rotate_left
  ·clear hk
   go_wp2_with fail
   refine (gwakes_any _).mono ?_
   rintro e wz ⟨rfl, hSz⟩
   go_wp2
   go_ret
   exact ⟨rfl, HS.out.trans (HT.out.trans hSz)⟩
  have HIS := zH (show i < s.stages.length by have := HLL.out.2; omega)
  have hCV := site_cover HOK.out HIS.out
  have hix : (0 : Int) ≤ (i : Int) ∧ (i : Int) < (ll.length : Int) := by omega
  obtain ⟨q1, d1, bb, oo, he, _, _, hp, hc, _⟩ := HLR.out.ints
  injection he with he1 _ he3
  subst he1 he3
  obtain rfl := hp (by omega)
  have HCL := zH (fun (j : Nat) (hj : j < ll.length) => show W7.cell? ⟨bb, oo + j, none⟩ = some (.int .i64 (limAtL l t s j)) by
   rw [hc j hj]; unfold limAtL; rw [← HLL.out.1, List.getD_eq_getElem?_getD, List.getElem?_eq_getElem hj]; rfl)
  have hrf : reefedR s t i = reefL s.stages[i].cover t ∧ reefedC s t i = 0 := by
   have h0 : reefedC s t i = 0 := by
    unfold reefedC
    rw [if_pos ⟨HRD.out.2, HSB.out⟩, if_pos]
    have := HIS.out
    simp [withinB]; omega
   refine ⟨?_, h0⟩
   unfold reefedR coverAt
   rw [if_pos h0, Int.toNat_natCast, List.getElem?_eq_getElem HIS.out]
   rfl
  obtain ⟨cv0, hcv⟩ : ∃ c, c = (s.stages[i]'HIS.out).cover := ⟨_, rfl⟩
  have HCV := zH (show 0 ≤ cv0 ∧ cv0 ≤ 100 by rw [hcv]; exact hCV.2)
  have HRF := zH (show reefedR s t i = reefL cv0 t ∧ reefedC s t i = 0 by rw [hcv]; exact hrf)
  have HLVL := zH (show ∀ (k : Nat) (hk : k < s.levels.length), (∀ j (hj : j < k) (hl : j < s.levels.length), s.levels[j].upto ≤ limAtL l t s i) → (limAtL l t s i < s.levels[k].upto → standB l (reefL cv0 t) (blowL s.base s.levels[k].push) = false) ∧ (s.levels[k].upto ≤ limAtL l t s i → standB l (reefL cv0 t) (blowL s.base s.levels[k].push) = true) by
   rw [hcv]; exact fun k hk => reefs_level (l := l) (t := t) HOK.out HIS.out hk)
  clear hp hc hcv hrf hCV
  go_upto_region 11 with (fail)
  obtain ⟨wo, hwo⟩ : ∃ W, W = wr := ⟨_, rfl⟩
  subst hwo
  have HTL := HT
  have q1 := SL.go HV.out HT.out
  have q2 := SL.go HU.out HT.out
  have q3 := AV.go HAV.out HT.out
  have q4 := SL.go HV2.out HT.out
  have q5 := HB.out.step HT.out
  have q6 := HS.out.trans HT.out
  clear HV HU HAV HV2 HB HS HT
  have HV := zH q1
  have HU := zH q2
  have HAV := zH q3
  have HV2 := zH q4
  have HB := zH q5
  have HS := zH q6
  have HT := zH (Step.refl wo)
  clear q1 q2 q3 q4 q5 q6
  refine wp_region_seq (kdOf [1, 3, 5] []) [0, 1, 0, 7, 0, 31, 63, 127, 127, 255, 1023] [0, 2, 4, 1, 3, 5, 6, 7, 8, 9, 10] [] (by kernel_rfl) (by kernel_rfl) (fun i T z hi hk => by simp [kdOf] at hk <;> (try (split at hk <;> cases hk))) ?_
  intro Wx hWx
  have HTx := zH (HT.out.trans hWx)
  clear hWx HT
  have HT := HTx
  clear HTx
  have n0 := (HB.out.step HT.out).cell 0
  have n1 := (HB.out.step HT.out).cell 1
  have n2 := (HB.out.step HT.out).cell 2
  have n3 := (HB.out.step HT.out).cell 3
  simp only [zD, zE] at n0 n1 n2 n3
  repeat ((first | (refine run_off rfl rfl (by rfl) ?_) | (refine run_chain_off rfl rfl (by rfl) (K0_mono _) ?_) | ((refine run_want rfl rfl (by rfl) ⟨?_, fun W hW => ?_, ?_⟩; rotate_left; (· (have d0 := hW.kc n0; have d1 := hW.kc n1; have d2 := hW.kc n2; have d3 := hW.kc n3; go_simp; (try with_reducible rfl)))))); (try simp only [Act.put, zA, zB, zC]))
  clear n0 n1 n2 n3
  refine run_chain rfl rfl (by rfl) (fun Wi hWi K' hK => ?_)
  have HTi := zH (HT.out.trans hWi)
  have HZW := zH HTi.out.size
  clear hWi HT
  go_simp
  refine (Tent_any (fun _ => False) t _ _ (SL.go HU.out HTi.out) HFEW.out.2).mono ?_
  rintro e wn ⟨v2, rfl, hv2, hSn⟩
  have HT := zH (HTi.out.trans (StepX.of hSn))
  clear HTi
  have Hhv2 := zH (SL.go hv2 (Step.refl _))
  clear hv2
  refine hK _ _ (StepX.of hSn) ?_
  clear hSn
  (try simp only [Act.put, zA, zB, zC])
  have n0 := (HB.out.step HT.out).cell 0
  have n1 := (HB.out.step HT.out).cell 1
  have n2 := (HB.out.step HT.out).cell 2
  have n3 := (HB.out.step HT.out).cell 3
  simp only [zD, zE] at n0 n1 n2 n3
  repeat ((first | (refine run_off rfl rfl (by rfl) ?_) | (refine run_chain_off rfl rfl (by rfl) (K0_mono _) ?_) | ((refine run_want rfl rfl (by rfl) ⟨?_, fun W hW => ?_, ?_⟩; rotate_left; (· (have d0 := hW.kc n0; have d1 := hW.kc n1; have d2 := hW.kc n2; have d3 := hW.kc n3; go_simp; (try with_reducible rfl)))))); (try simp only [Act.put, zA, zB, zC]))
  clear n0 n1 n2 n3
  refine run_chain rfl rfl (by rfl) (fun Wi hWi K' hK => ?_)
  have HTi := zH (HT.out.trans hWi)
  have h1i := zH (SL.go Hhv2.out hWi)
  clear hWi HT Hhv2
  go_simp
  refine (SiteL_any (fun _ => False) s _ _ (AV.go HAV.out HTi.out) (by have := HSM.out; omega) (by have := HSM.out; omega) (by have := HSM.out; omega)).mono ?_
  rintro e wn ⟨v3, rfl, hv3, hSn⟩
  have HT := zH (HTi.out.trans (StepX.of hSn))
  have Hhv2 := zH (SL.go h1i.out hSn)
  have HZI := zH HTi.out.size
  clear HTi h1i
  have Hhv3 := zH (AV.go hv3 (Step.refl _))
  clear hv3
  refine hK _ _ (StepX.of hSn) ?_
  clear hSn
  (try simp only [Act.put, zA, zB, zC])
  repeat ((first | (refine run_off rfl rfl (by rfl) ?_) | (refine run_chain_off rfl rfl (by rfl) (K0_mono _) ?_) | ((refine run_want rfl rfl (by rfl) ⟨?_, fun W hW => ?_, ?_⟩; rotate_left; (· (skip; go_simp; (try with_reducible rfl)))))); (try simp only [Act.put, zA, zB, zC]))
  refine run_chain rfl rfl (by rfl) (fun Wi hWi K' hK => ?_)
  have HTi := zH (HT.out.trans hWi)
  have hcall := zH (ReefedG_any s t (i : Int) _ _ _ (SL.go Hhv2.out hWi) (AV.go Hhv3.out hWi))
  clear hWi HT Hhv2 Hhv3
  go_simp
  refine hcall.out.mono ?_
  clear hcall
  rintro e wn8 ⟨v22, rfl, hv22, hSn⟩
  rw [HRF.out.1] at hv22
  rw [HRF.out.2]
  obtain ⟨p22, c22, rfl⟩ := hv22.form
  have HT := zH (HTi.out.trans (StepX.of hSn))
  have HXR := zH (SL.go hv22 (Step.refl _))
  clear HTi hv22
  refine hK _ _ (StepX.of hSn) ?_
  clear hSn
  (try simp only [Act.put, zA, zB, zC])
  repeat ((first | (refine run_off rfl rfl (by rfl) ?_) | (refine run_chain_off rfl rfl (by rfl) (K0_mono _) ?_) | ((refine run_want rfl rfl (by rfl) ⟨?_, fun W hW => ?_, ?_⟩; rotate_left; (· (skip; go_simp; (try with_reducible rfl)))))); (try simp only [Act.put, zA, zB, zC]))
  refine run_end (L := []) rfl (fun W6 hW6 => ?_)
  have HT6 := zH (HT.out.trans hW6)
  have HXR6 := zH (SL.go HXR.out hW6)
  clear HXR hW6 HT
  have HXR := HXR6
  have HT := HT6
  clear HXR6 HT6
  go_upto_region 12 with (fail)
  have HTM := zH (HTL.out.trans HT.out)
  have q1 := SL.go HV.out HT.out
  have q2 := SL.go HU.out HT.out
  have q3 := AV.go HAV.out HT.out
  have q4 := SL.go HV2.out HT.out
  have q5 := HB.out.step HT.out
  have q6 := HS.out.trans HT.out
  clear HV HU HAV HV2 HB HS HT
  have HV := zH q1
  have HU := zH q2
  have HAV := zH q3
  have HV2 := zH q4
  have HB := zH q5
  have HS := zH q6
  have HT := zH (Step.refl W6)
  clear q1 q2 q3 q4 q5 q6
  clear HTL
  (try simp only [Act.put, zA, zB, zC])
  go_cut [93] (fun c wx => c = .bool false ∧ Step W6 wx)
  case first =>
   as_aux_lemma =>
    have e0 := HTM.out.kc (HCL.out i hlt)
    cases i with
    | zero =>
     have d0 : decide (0 < ((0 : Nat) : Int)) = false := by decide
     go_quiet (fail)
     go_wp2
     go_meet
     exact ⟨rfl, Step.drewN _ _⟩
    | succ j =>
     have e1 := HTM.out.kc (HCL.out j (by omega))
     have hsd : limAtL l t s j ≤ limAtL l t s (j + 1) := by
      have hl : (limitsL l t s).length = s.stages.length := by simp [limitsL]
      have h1 := HLP.out j (by rw [hl]; exact HIS.out)
      unfold limAtL
      rw [List.getD_eq_getElem?_getD, List.getD_eq_getElem?_getD, List.getElem?_eq_getElem (show j < (limitsL l t s).length by rw [hl]; have := HIS.out; omega), List.getElem?_eq_getElem (show j + 1 < (limitsL l t s).length by rw [hl]; exact HIS.out)]
      exact h1
     obtain ⟨a, ha⟩ : ∃ a, a = limAtL l t s (j + 1) := ⟨_, rfl⟩
     obtain ⟨b, hb⟩ : ∃ b, b = limAtL l t s j := ⟨_, rfl⟩
     rw [← ha] at e0 hsd
     rw [← hb] at e1 hsd
     have d1 : decide (a < b) = false := decide_eq_false (by omega)
     have hd0 : decide ((0 : Int) < ((j + 1 : Nat) : Int)) = true := decide_eq_true (by omega)
     have hjx : (0 : Int) ≤ (j : Int) ∧ (j : Int) < (ll.length : Int) := by omega
     have hix2 : (0 : Int) ≤ (j : Int) + 1 ∧ (j : Int) + 1 < (ll.length : Int) := by omega
     have htn : ((j : Int) + 1).toNat = j + 1 := by omega
     have hwj : IntKind.i64.wrap (j : Int) = (j : Int) := by have := HLL.out.2; have := HOK.out.nst; rw [IntKind.wrap_i64]; omega
     clear ha hb hsd
     go_quiet (fail)
     go_wp2
     go_meet
     exact ⟨rfl, Step.drewN _ _⟩
  case rest =>
  obtain ⟨rfl, hTc⟩ := hcut
  have HT := zH hTc
  clear hTc
  have q7 := SL.go HXR.out HT.out
  clear HXR
  have HXR := zH q7
  clear q7
  have HTM2 := zH (HTM.out.trans HT.out)
  have q1 := SL.go HV.out HT.out
  have q2 := SL.go HU.out HT.out
  have q3 := AV.go HAV.out HT.out
  have q4 := SL.go HV2.out HT.out
  have q5 := HB.out.step HT.out
  have q6 := HS.out.trans HT.out
  clear HV HU HAV HV2 HB HS HT
  have HV := zH q1
  have HU := zH q2
  have HAV := zH q3
  have HV2 := zH q4
  have HB := zH q5
  have HS := zH q6
  have HT := zH (Step.refl wc)
  clear q1 q2 q3 q4 q5 q6
  clear HTM
  have n0 := (HB.out.step HT.out).cell 0
  have n1 := (HB.out.step HT.out).cell 1
  have n2 := (HB.out.step HT.out).cell 2
  have n3 := (HB.out.step HT.out).cell 3
  simp only [zD, zE] at n0 n1 n2 n3
  go_wp2
  clear n0 n1 n2 n3
  go_loopw [12] (fun kk wr => ∃ k : Nat, k ≤ s.levels.length ∧ kk = .int .i64 k ∧ (∀ j (hj : j < k) (hl : j < s.levels.length), s.levels[j].upto ≤ limAtL l t s i) ∧ Step wc wr) (fun kk _ => s.levels.length - (intOf kk).toNat)
  case atStart => exact ⟨0, Nat.zero_le _, rfl, fun j hj => absurd hj (by omega), HT.out⟩
  case round =>
   obtain ⟨k, hk2, rfl, hall, hT⟩ := hrel
   have HA := zH hall
   clear HT
   have HT := zH hT
   clear hT hall
   by_cases hl2 : k < s.levels.length
   rotate_left
   ·skip
    have n0 := (HB.out.step HT.out).cell 0
    have n1 := (HB.out.step HT.out).cell 1
    have n2 := (HB.out.step HT.out).cell 2
    have n3 := (HB.out.step HT.out).cell 3
    simp only [zD, zE] at n0 n1 n2 n3
    go_wp2
    go_roundw
    case rel => exact ⟨i + 1, by omega, by go_num, HTM2.out.trans HT.out⟩
    case measure => simp [intOf]; omega
   have n0 := (HB.out.step HT.out).cell 0
   have n1 := (HB.out.step HT.out).cell 1
   have n2 := (HB.out.step HT.out).cell 2
   have n3 := (HB.out.step HT.out).cell 3
   simp only [zD, zE] at n0 n1 n2 n3
   go_upto_region 17 with (fail)
   clear n0 n1 n2 n3
   obtain ⟨wp, hwp⟩ : ∃ W, W = wr := ⟨_, rfl⟩
   subst hwp
   have HTK := HT
   have HVT := zH (SL.go HXR.out HT.out)
   have q1 := SL.go HV.out HT.out
   have q2 := SL.go HU.out HT.out
   have q3 := AV.go HAV.out HT.out
   have q4 := SL.go HV2.out HT.out
   have q5 := HB.out.step HT.out
   have q6 := HS.out.trans HT.out
   clear HV HU HAV HV2 HB HS HT
   have HV := zH q1
   have HU := zH q2
   have HAV := zH q3
   have HV2 := zH q4
   have HB := zH q5
   have HS := zH q6
   have HT := zH (Step.refl wp)
   clear q1 q2 q3 q4 q5 q6
   have HP := zH (HOK.out.lev k hl2)
   have HLV2 := zH (HLVL.out k hl2 HA.out)
   have HBS := zH HOK.out.base
   have hbz := blown_zero HRD.out.1 HSD.out (reef_tent HCV.out HRD.out.2) (blow_wind HOK.out hl2)
   have HBZ := zH hbz
   have HWK := zH (And.intro (weakR_le hbz) (weakR_ok hbz))
   clear hbz
   refine wp_region_seqM (fun c d v a w h => by cases d <;> exact h) (kdOf [1, 5, 6, 7] [(13, 52, .agg #[.int .i64 0, .int .i64 0])]) [0, 1, 0, 0, 0, 27, 59, 127, 255, 511, 511, 511, 511, 0, 9215, 26623, 61439, 131071] [0, 2, 3, 4, 1, 5, 6, 7, 8, 9, 10, 11, 12, 13, 14, 15] [16, 17] (by kernel_rfl) (by kernel_rfl) (fun i T z hi hk => by simp only [List.mem_cons, List.not_mem_nil, or_false] at hi; rcases hi with rfl | rfl | rfl | rfl | rfl | rfl | rfl | rfl | rfl | rfl | rfl | rfl | rfl | rfl | rfl | rfl <;> simp [kdOf] at hk <;> (obtain ⟨rfl, rfl⟩ := hk; first | (show Option.bind _ _ = some _; kernel_rfl) | (refine ⟨_, rfl, fun _ _ => ?_⟩; go_simp))) ?_
   intro Wx hWx
   have HTx := zH (HT.out.trans hWx)
   clear hWx HT
   have HT := HTx
   clear HTx
   have HVTx := zH (SL.go HVT.out HT.out)
   clear HVT
   have HVT := HVTx
   clear HVTx
   have n0 := (HB.out.step HT.out).cell 0
   have n1 := (HB.out.step HT.out).cell 1
   have n2 := (HB.out.step HT.out).cell 2
   have n3 := (HB.out.step HT.out).cell 3
   simp only [zD, zE] at n0 n1 n2 n3
   repeat ((first | (refine run_off rfl rfl (by rfl) ?_) | (refine run_chain_off rfl rfl (by rfl) (K0_mono _) ?_) | ((refine run_want rfl rfl (by rfl) ⟨?_, fun W hW => ?_, ?_⟩; rotate_left; (· (have d0 := hW.kc n0; have d1 := hW.kc n1; have d2 := hW.kc n2; have d3 := hW.kc n3; go_simp; (try with_reducible rfl)))))); (try simp only [Act.put, zA, zB, zC]))
   clear n0 n1 n2 n3
   refine run_chain rfl rfl (by rfl) (fun Wi hWi K' hK => ?_)
   have HTi := zH (HT.out.trans hWi)
   have h1i := zH (SL.go HVT.out hWi)
   clear hWi HT HVT
   go_simp
   refine (Tests_any (fun _ => False) l _ _ (SL.go HV.out HTi.out) (by have := HFEW.out.1; omega)).mono ?_
   rintro e wn ⟨v1, rfl, hv1, hSn⟩
   have HT := zH (HTi.out.trans (StepX.of hSn))
   have HVT := zH (SL.go h1i.out hSn)
   have HZI := zH HTi.out.size
   clear HTi h1i
   have Hhv1 := zH (SL.go hv1 (Step.refl _))
   clear hv1
   refine hK _ _ (StepX.of hSn) ?_
   clear hSn
   (try simp only [Act.put, zA, zB, zC])
   have n0 := (HB.out.step HT.out).cell 0
   have n1 := (HB.out.step HT.out).cell 1
   have n2 := (HB.out.step HT.out).cell 2
   have n3 := (HB.out.step HT.out).cell 3
   simp only [zD, zE] at n0 n1 n2 n3
   repeat ((first | (refine run_off rfl rfl (by rfl) ?_) | (refine run_chain_off rfl rfl (by rfl) (K0_mono _) ?_) | ((refine run_want rfl rfl (by rfl) ⟨?_, fun W hW => ?_, ?_⟩; rotate_left; (· (have d0 := hW.kc n0; have d1 := hW.kc n1; have d2 := hW.kc n2; have d3 := hW.kc n3; go_simp; (try with_reducible rfl)))))); (try simp only [Act.put, zA, zB, zC]))
   clear n0 n1 n2 n3
   refine run_chain rfl rfl (by rfl) (fun Wi hWi K' hK => ?_)
   have HTi := zH (HT.out.trans hWi)
   have h1i := zH (SL.go HVT.out hWi)
   have h2i := zH (SL.go Hhv1.out hWi)
   clear hWi HT HVT Hhv1
   go_simp
   refine (RWindS_any s k hl2 _ _ (AV.go HAV.out HTi.out) HOK.out.corners HP.out.2 (by have := HBS.out; omega)).mono ?_
   rintro e wn ⟨v5, rfl, hv5, hSn⟩
   have HT := zH (HTi.out.trans (StepX.of hSn))
   have HVT := zH (SL.go h1i.out hSn)
   have Hhv1 := zH (SL.go h2i.out hSn)
   have HZI := zH HTi.out.size
   clear HTi h1i h2i
   have Hhv5 := zH (SL.go hv5 (Step.refl _))
   clear hv5
   refine hK _ _ (StepX.of hSn) ?_
   clear hSn
   (try simp only [Act.put, zA, zB, zC])
   repeat ((first | (refine run_off rfl rfl (by rfl) ?_) | (refine run_chain_off rfl rfl (by rfl) (K0_mono _) ?_) | ((refine run_want rfl rfl (by rfl) ⟨?_, fun W hW => ?_, ?_⟩; rotate_left; (· (skip; go_simp; (try with_reducible rfl)))))); (try simp only [Act.put, zA, zB, zC]))
   refine run_chain rfl rfl (by rfl) (fun Wi hWi K' hK => ?_)
   have HTi := zH (HT.out.trans hWi)
   have h1i := zH (SL.go HVT.out hWi)
   have h2i := zH (SL.go Hhv1.out hWi)
   have h3i := zH (SL.go Hhv5.out hWi)
   clear hWi HT HVT Hhv1 Hhv5
   go_simp
   refine (Wind_any _ (blowL s.base s.levels[k].push) _ _ h3i.out (by simp [blowL]; have := HBS.out; omega)).mono ?_
   rintro e wn ⟨v6, rfl, hv6, hSn⟩
   have HT := zH (HTi.out.trans (StepX.of hSn))
   have HVT := zH (SL.go h1i.out hSn)
   have Hhv1 := zH (SL.go h2i.out hSn)
   have Hhv5 := zH (SL.go h3i.out hSn)
   clear HTi h1i h2i h3i
   have Hhv6 := zH (SL.go hv6 (Step.refl _))
   clear hv6
   refine hK _ _ (StepX.of hSn) ?_
   clear hSn
   (try simp only [Act.put, zA, zB, zC])
   repeat ((first | (refine run_off rfl rfl (by rfl) ?_) | (refine run_chain_off rfl rfl (by rfl) (K0_mono _) ?_) | ((refine run_want rfl rfl (by rfl) ⟨?_, fun W hW => ?_, ?_⟩; rotate_left; (· (skip; go_simp; (try with_reducible rfl)))))); (try simp only [Act.put, zA, zB, zC]))
   refine run_chain rfl rfl (by rfl) (fun Wi hWi K' hK => ?_)
   have HTi := zH (HT.out.trans hWi)
   have h1i := zH (SL.go HVT.out hWi)
   have h2i := zH (SL.go Hhv1.out hWi)
   have h3i := zH (SL.go Hhv6.out hWi)
   clear hWi HT HVT Hhv1 Hhv6
   go_simp
   refine (Weakest_any (fun _ => False) l (reefL cv0 t) (blowL s.base s.levels[k].push) _ _ _ _ h2i.out h1i.out h3i.out).mono ?_
   rintro e wn ⟨a, b, rfl, hz, hok, hSn⟩
   have HT := zH (HTi.out.trans (StepX.of hSn))
   have HVT := zH (SL.go h1i.out hSn)
   have Hhv1 := zH (SL.go h2i.out hSn)
   have Hhv6 := zH (SL.go h3i.out hSn)
   clear HTi h1i h2i h3i
   rw [HBZ.out]
   obtain ⟨r1, hr1⟩ : ∃ r, r = (weakR l (reefL cv0 t) (blowL s.base s.levels[k].push)).1 := ⟨_, rfl⟩
   rw [← hr1] at HWK ⊢
   clear hz hok HVT Hhv1 Hhv5 Hhv6 hr1
   refine hK _ _ (StepX.of hSn) ?_
   clear hSn
   (try simp only [Act.put, zA, zB, zC])
   repeat ((first | (refine run_off rfl rfl (by rfl) ?_) | (refine run_chain_off rfl rfl (by rfl) (K0_mono _) ?_) | ((refine run_want rfl rfl (by rfl) ⟨?_, fun W hW => ?_, ?_⟩; rotate_left; (· (skip; go_simp; (try with_reducible rfl)))))); (try simp only [Act.put, zA, zB, zC]))
   refine run_alloc rfl rfl (fun W5 gw hW5 hg hgb hgN => ?_)
   (try simp only [Act.put, zA, zB, zC])
   repeat ((first | (refine run_off rfl rfl (by rfl) ?_) | (refine run_chain_off rfl rfl (by rfl) (K0_mono _) ?_) | ((refine run_want rfl rfl (by rfl) ⟨?_, fun W hW => ?_, ?_⟩; rotate_left; (· (skip; go_simp; (try with_reducible rfl)))))); (try simp only [Act.put, zA, zB, zC]))
   refine run_end (L := [_, _]) rfl (fun W6x hW6 => ?_)
   have hb6 := Bx.step (w := W5) (cs := [_, _]) hg hW6
   refine wpl_store (v := .agg #[.int .i64 a, .int .i64 b]) rfl _ _ _ rfl rfl rfl hb6 (by kernel_rfl) (by simp [Value.cells]) (by simp [Value.cells, Value.oneCell']) [.int .i64 a, .int .i64 b] rfl (fun w8 hb8 hw8 => ?_)
   have HTx := zH (Step.wrote ((HT.out.trans hW5).trans hW6) hw8 hgb)
   clear hW5 hg hgb hgN hW6 hb6 hb8 hw8 HT
   have HT := HTx
   have HT8 := zH (HTK.out.trans HTx.out)
   clear HTx HTK
   have HT9 := zH (HTM2.out.trans HT8.out)
   have e0 := HT9.out.kc (HCL.out i hlt)
   obtain ⟨lm, hlm⟩ : ∃ a, a = limAtL l t s i := ⟨_, rfl⟩
   have HLM := zH hlm
   obtain ⟨p1', k1', b1, o1, he, _, _, hp, hc, _⟩ := HLVS.out.lvls
   injection he with he1 _ he3
   subst he1 he3
   obtain rfl := hp (by omega)
   obtain ⟨e1, _⟩ := hc k hl2
   have e1 := HT9.out.kc e1
   obtain ⟨up, hup⟩ : ∃ a, a = s.levels[k].upto := ⟨_, rfl⟩
   rw [← hlm] at e0 HLV2
   rw [← hup] at e1 HLV2
   have HUP := zH hup
   have hkx : (0 : Int) ≤ (k : Int) ∧ (k : Int) < (s.levels.length : Int) := by omega
   clear hp hc hlm hup
   have n0 := (HB.out.step HT.out).cell 0
   have n1 := (HB.out.step HT.out).cell 1
   have n2 := (HB.out.step HT.out).cell 2
   have n3 := (HB.out.step HT.out).cell 3
   simp only [zD, zE] at n0 n1 n2 n3
   by_cases q : lm < up
   ·have hst := HLV2.out.1 q
    rw [hst] at HWK
    have hd1 := HWK.out.1
    have hd2 : decide (lm < up) = true := decide_eq_true q
    clear hst q
    go_upto_region 20 with (fail)
    go_quiet (fail)
    go_wp2
    go_roundw
    case rel => exact ⟨i + 1, by omega, by go_num, HT9.out.trans (Step.drewN _ _)⟩
    case measure => simp [intOf]; omega
   have hst := HLV2.out.2 (by omega)
   rw [hst] at HWK
   have hd1 := HWK.out.2
   simp only [Bool.not_true] at hd1
   have hd2 : decide (lm < up) = false := decide_eq_false q
   have HQ := zH (show s.levels[k].upto ≤ limAtL l t s i by rw [← HUP.out, ← HLM.out]; omega)
   clear hst q
   go_upto_region 20 with (fail)
   go_quiet (fail)
   go_wp2
   go_roundw
   case rel => exact ⟨k + 1, by omega, by go_num, fun j hj hl => if e : j = k then by subst e; exact HQ.out else HA.out j (by omega) hl, HT8.out.trans (Step.drewN _ _)⟩
   case measure => simp [intOf]; omega
end Go.Proofs.YtfhmdpicoccnfaaGreat
namespace Go.Proofs.YtfhmdpicoccnfaaGreat.reefs
open Go.ChangeShapes Go.WideShapes Go.ChangeAt Go.RowKit Go.BT
set_option linter.unusedVariables false
set_option linter.unusedSimpArgs false
theorem lifted (os : Os) (started : os.Started) (H : Type) (enc : TypeId × Value → H) :
  ReturnsInHanded {} Tryz.checked os 3 .any (Rows.galeReefsSpec.pre6 enc Tryz.prog Tryz.f3 Rows.galeReefsRow.domain false) (Rows.galeReefsSpec.post enc Tryz.prog Tryz.f3 false true false false) := by
 refine returnsInHanded_of_change (C := Tryz.checked) own started (by kernel_rfl) Tryz.func3
  (ChangeSpec.witness6 (enc := enc) (C := Tryz.checked) false ⟨#[], #[.slice none 0 0, .slice none 0 0, .agg #[.slice none 0 0, .slice none 0 0, .slice none 0 0, .int .i64 0]], []⟩ 8 (by kernel_rfl) (by kernel_rfl) (by kernel_rfl) (by kernel_rfl)) ?_
 intro W base args ds gs before hval0 hW hcnd _
 have hval : ∀ (j : Nat) t v, Tryz.f3.params[j]? = some t → args[j]? = some v → Value.okWide Tryz.prog W .any base t v := hval0
 have hW' := hW
 obtain ⟨p, q, hA0, hV, rfl, hfz, hnd⟩ := hW
 have hA : DataW.TrodAll enc Tryz.prog W 0 (fun _ => true) true Tryz.f3.params.toList args.toList ds p := hA0
 have hAk := hA
 rw [Tryz.params3] at hA hval
 obtain ⟨v0, vs0, d0, ds0, p0, q0, hargs, rfl, rfl, h0, r0⟩ := trodAll_cons hA
 obtain ⟨v1, vs1, d1, ds1, p1, q1, rfl, rfl, rfl, h1, r1⟩ := trodAll_cons r0
 obtain ⟨v2, vs2, d2, ds2, p2, q2, rfl, rfl, rfl, h2, r2⟩ := trodAll_cons r1
 obtain ⟨rfl, rfl, rfl⟩ := trodAll_nil r2
 obtain rfl : args = #[v0, v1, v2] := by cases args; simp_all
 obtain ⟨rfl, rfl⟩ := trodVars_none hV
 obtain ⟨a0, hh0⟩ := sl_of opens_tests Tryz.underlying22 (hval 0 22 v0 rfl rfl) h0
 obtain ⟨a1, hh1⟩ := sl_of opens_tent Tryz.underlying24 (hval 1 24 v1 rfl rfl) h1
 obtain ⟨a2, hh2⟩ := av_of opens_Site Tryz.underlying29 (hval 2 29 v2 rfl rfl) h2
 clear hA0 hval0
 refine (GaleReefs_any a0 a1 a2 v0 v1 v2 W hh0 hh1 hh2).mono fun e W' ⟨he, hg⟩ => ?_
 subst he
 have hlt := hW'.lt
 refine ⟨_, rfl, post_of_below (pv := []) hW' (fun _ _ _ => (trodAll_cons_mk (shut_bool Tryz.underlying4 _) trodAll_mk0)) (fun sp hs => all_stays laid hg.below (fun t ht => ?_) hAk (fun x hx => hlt x (by simpa using hx)) (fun x hx => hs x (by simpa using hx))) (fun _ _ => rfl) rfl hg.below (ok_one (by kernel_rfl) rfl (okWide_bool_mk Tryz.underlying4 _))⟩
 rw [Tryz.params3] at ht
 have : ∀ t ∈ [22, 24, 29], Tryz.prog.readableRec t = true ∧ t < Tryz.prog.types.size := by
  intro t ht
  simp only [List.mem_cons, List.not_mem_nil, or_false] at ht
  rcases ht with rfl | rfl | rfl <;> exact ⟨by kernel_rfl, of_decide_eq_true (by kernel_rfl)⟩
 exact this t ht
theorem over : Rows.galeReefsRow.holds Tryz.pinned (OpenSpec.ofChange Rows.galeReefsSpec) :=
 OpenClaim.holds_of_wide 3 Tryz.f3 rfl rfl rfl rfl rfl rfl rfl ⟨rfl, rfl, rfl, rfl, rfl⟩ rfl rfl rfl rfl rfl (by kernel_rfl) Tryz.func3 (by kernel_rfl)
  (of_decide_eq_true (by kernel_rfl)) (by unfold Func.isWrapper; first | (rw [if_pos (by decide +kernel)]; kernel_rfl) | (rw [if_neg (by decide +kernel)]; exact ⟨rfl, rfl⟩))
  (fun os started H enc _ => lifted os started H enc)
theorem proved : Rows.GaleReefsSaid := over
end Go.Proofs.YtfhmdpicoccnfaaGreat.reefs
