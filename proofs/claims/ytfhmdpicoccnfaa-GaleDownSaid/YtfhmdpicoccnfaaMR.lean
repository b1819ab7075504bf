/- Walks and plain laws, part R. -/
import Derived.Test.YtfhmdpicoccnfaaMA
import Derived.Test.YtfhmdpicoccnfaaMF
import Derived.Test.YtfhmdpicoccnfaaMP
import Derived.Test.YtfhmdpicoccnfaaMQ
import Derived.Test.YtfhmdpicoccnfaaRows
set_option maxHeartbeats 16000000
set_option maxRecDepth 100000
namespace Go.Proofs.Ytfhmdpicoccnfaa
set_option linter.unusedSimpArgs false
set_option linter.unusedVariables false
open Go.RowKit Go.BT
theorem planC_none {s : Site} {limits worst : List Int} {now out : Int} (h : siteB s = true) (h2 : askedB s limits worst now out = true) (h3 : planR s limits worst now out = none) : planC s limits worst now out = 11 := by
 unfold planC; rw [if_pos h, if_pos h2, h3]
theorem planC_some {s : Site} {limits worst : List Int} {now out : Int} {st : PlanS} (h : siteB s = true) (h2 : askedB s limits worst now out = true) (h3 : planR s limits worst now out = some st) : planC s limits worst now out = 0 ∧ planB s limits worst now out = st.begin_ ∧ planCall s limits worst now out = st.call := by
 have h0 : planC s limits worst now out = 0 := by unfold planC; rw [if_pos h, if_pos h2, h3]
 unfold planB planCall
 rw [h0, h3]
 exact ⟨rfl, rfl, rfl⟩
theorem GalePlans_any (s : Site) (limits worst : List Int) (now out : Int) (u v x : Value) (w : World) (hu : AV (fun _ => False) w u s) (hv : SL (fun _ => False) w v limits) (hx : SL (fun _ => False) w x worst) :
  Calls Try.prog 4 #[u, v, x, .int .i64 now, .int .i64 out] w fun e w' => e = .returned (.bool true) ∧ Step w w' := by
 obtain ⟨c0, c1, c2, rfl, h0, h1, h2⟩ := hu.site
 obtain ⟨p0, k0, rfl⟩ := h0.form
 obtain ⟨p1, k1, rfl⟩ := h1.form
 obtain ⟨p2, k2, rfl⟩ := h2.form
 obtain ⟨W0, hW0⟩ : ∃ W, W = w.alloc (.cells #[.slice p0 s.base.length k0, .slice p1 s.levels.length k1, .slice p2 s.stages.length k2, .int .i64 s.openS] 55) := ⟨_, rfl⟩
 have hS : Step w W0 := by subst hW0; exact Step.alloc _ _
 have HB := zH (show Bx W0 w.heap.size [.slice p0 s.base.length k0, .slice p1 s.levels.length k1, .slice p2 s.stages.length k2, .int .i64 s.openS] 55 by subst hW0; exact Bx.new w [_, _, _, _] _)
 have HV := zH (SL.go hv hS)
 have HX := zH (SL.go hx hS)
 have HAV := zH (AV.go hu hS)
 have HV2 := zH (SL.go h2 hS)
 have HS := zH hS
 have HT := zH (Step.refl W0)
 have HW := zH hW0
 obtain ⟨pv, cv, rfl⟩ := hv.form
 obtain ⟨px, cx, rfl⟩ := hx.form
 clear hS hW0 hu hv hx h0 h1 h2
 go_enter Try.func4, Try.ntmps4
 go_upto_region 1 with (fail)
 rw [← HW.out]
 have n0 := (HB.out.step HT.out).cell 0
 have n1 := (HB.out.step HT.out).cell 1
 have n2 := (HB.out.step HT.out).cell 2
 have n3 := (HB.out.step HT.out).cell 3
 simp only [zD, zE] at n0 n1 n2 n3
 go_wp2_with fail
 refine (smallSite_any (fun _ => False) s _ _ (AV.go HAV.out HT.out)).mono ?_
 rintro e wn ⟨rfl, hSn⟩
 have HTi := zH (HT.out.trans hSn)
 clear hSn HT
 have HT := HTi
 clear HTi
 clear n0 n1 n2 n3
 cases qs : smallB s with
 | false =>
  clear qs
  go_wp2_with fail
  refine (gwakes_any _).mono ?_
  rintro e wn ⟨rfl, hSn⟩
  go_wp2
  go_ret
  exact ⟨rfl, HS.out.trans (HT.out.trans hSn)⟩
 | true =>
 have HSM := zH (show s.base.length ≤ 15 ∧ s.levels.length ≤ 15 ∧ s.stages.length ≤ 15 by
  simp only [smallB, Bool.and_eq_true, decide_eq_true_eq] at qs; exact ⟨qs.1.1, qs.1.2, qs.2⟩)
 clear qs
 by_cases ql : limits.length ≤ 15
 rotate_left
 ·have d0 : decide (15 < (limits.length : Int)) = true := decide_eq_true (by omega)
  have d0n : decide (15 < limits.length) = true := decide_eq_true (by omega)
  clear ql
  go_wp2_with fail
  refine (gwakes_any _).mono ?_
  rintro e wn ⟨rfl, hSn⟩
  go_wp2
  go_ret
  exact ⟨rfl, HS.out.trans (HT.out.trans hSn)⟩
 have d0 : decide (15 < (limits.length : Int)) = false := decide_eq_false (by omega)
 have d0n : decide (15 < limits.length) = false := decide_eq_false (by omega)
 by_cases qw : worst.length ≤ 60
 rotate_left
 ·have d1 : decide (60 < (worst.length : Int)) = true := decide_eq_true (by omega)
  have d1n : decide (60 < worst.length) = true := decide_eq_true (by omega)
  clear ql qw
  go_wp2_with fail
  refine (gwakes_any _).mono ?_
  rintro e wn ⟨rfl, hSn⟩
  go_wp2
  go_ret
  exact ⟨rfl, HS.out.trans (HT.out.trans hSn)⟩
 have d1 : decide (60 < (worst.length : Int)) = false := decide_eq_false (by omega)
 have d1n : decide (60 < worst.length) = false := decide_eq_false (by omega)
 have HLL := zH (And.intro ql qw)
 clear ql qw
 have n0 := (HB.out.step HT.out).cell 0
 have n1 := (HB.out.step HT.out).cell 1
 have n2 := (HB.out.step HT.out).cell 2
 have n3 := (HB.out.step HT.out).cell 3
 simp only [zD, zE] at n0 n1 n2 n3
 go_wp2_with fail
 refine (SiteL_any (fun _ => False) s _ _ (AV.go HAV.out HT.out) (by have := HSM.out; omega) (by have := HSM.out; omega) (by have := HSM.out; omega)).mono ?_
 rintro e wn ⟨vs, rfl, hvs, hSn⟩
 have HTi := zH (HT.out.trans hSn)
 have HVS := zH (AV.go hvs (Step.refl wn))
 clear HT hSn hvs
 have HT := HTi
 clear HTi
 clear n0 n1 n2 n3
 clear d0 d0n d1 d1n
 have hsl := (HV.out.keep (.of_step HT.out))
 have hll := HLL.out.1
 go_wp2_with (at_builtin; refine wpl_append (α := Int) (S := fun _ => False) (base := wn.heap.size) (v := .slice (some ⟨wn.heap.size, 0, none⟩) 0 0) (l := []) (m := limits) eiInts rfl _ _ rfl rfl rfl ⟨[], World.ownsRow_lit wn #[] 0 (Nat.le_refl _) (by simp [maxLen]) (by simp), fun i h => absurd h (by simp)⟩ (SL.flat _ (hsl.keep (.alloc _ _))) limits.length (by simp) limits rfl ?_ ?_ ?_ ?_)
 ·simp only [maxLen]; omega
 ·omega
 ·simp
 intro pz cz wz hown hg
 have hX : Step wn wz := .of (((Below.refl _ wn).alloc (Nat.le_refl _) _).grown hg (by simp) (by simp [Value.ownBlock]))
 have HSLZ := zH ((ownL_flat (fun _ => False) hown).slb fun _ _ h => h)
 have HSTZ := zH hX
 have HTi := zH (HT.out.trans hX)
 clear hown hg HT hX hsl hll
 have HT := HTi
 clear HTi
 have HVS2 := zH (AV.go HVS.out HSTZ.out)
 have HL2 := HSLZ
 clear HVS HSTZ HSLZ
 have hsl := (HX.out.keep (.of_step HT.out))
 have hll := HLL.out.2
 go_wp2_with (at_builtin; refine wpl_append (α := Int) (S := fun _ => False) (base := wz.heap.size) (v := .slice (some ⟨wz.heap.size, 0, none⟩) 0 0) (l := []) (m := worst) eiInts rfl _ _ rfl rfl rfl ⟨[], World.ownsRow_lit wz #[] 0 (Nat.le_refl _) (by simp [maxLen]) (by simp), fun i h => absurd h (by simp)⟩ (SL.flat _ (hsl.keep (.alloc _ _))) worst.length (by simp) worst rfl ?_ ?_ ?_ ?_)
 ·simp only [maxLen]; omega
 ·omega
 ·simp
 intro pz cz wy hown hg
 have hX : Step wz wy := .of (((Below.refl _ wz).alloc (Nat.le_refl _) _).grown hg (by simp) (by simp [Value.ownBlock]))
 have HSLZ := zH ((ownL_flat (fun _ => False) hown).slb fun _ _ h => h)
 have HSTZ := zH hX
 have HTi := zH (HT.out.trans hX)
 clear hown hg HT hX hsl hll
 have HT := HTi
 clear HTi
 have HVS3 := zH (AV.go HVS2.out HSTZ.out)
 have HL3 := zH (SL.go HL2.out HSTZ.out)
 have HX3 := HSLZ
 clear HVS2 HL2 HSTZ HSLZ
 go_wp2_with fail
 refine (PlanG_any s limits worst now out _ _ _ _ HVS3.out HL3.out HX3.out).mono ?_
 rintro e wm ⟨⟨vb, rfl, hvb⟩, hSn⟩
 have HTi := zH (HT.out.trans hSn)
 clear HT hSn HVS3 HL3 HX3
 have HT := HTi
 clear HTi
 obtain ⟨pc, hpc⟩ : ∃ c, c = planC s limits worst now out := ⟨_, rfl⟩
 obtain ⟨pl, hpl⟩ : ∃ c, c = planB s limits worst now out := ⟨_, rfl⟩
 obtain ⟨cl, hcl⟩ : ∃ c, c = planCall s limits worst now out := ⟨_, rfl⟩
 rw [← hpl] at hvb
 rw [← hpc, ← hcl]
 have HPC := zH (And.intro hpc (And.intro hpl hcl))
 obtain ⟨pb, cb, rfl⟩ := hvb.form
 have HVB := zH (SL.go hvb (Step.refl wm))
 clear hpc hpl hcl hvb
 have x1 := SL.go HV.out HT.out
 have x2 := SL.go HX.out HT.out
 have x3 := AV.go HAV.out HT.out
 have x4 := SL.go HV2.out HT.out
 have x5 := HB.out.step HT.out
 have x6 := HS.out.trans HT.out
 clear HV HX HAV HV2 HB HS HT
 have HV := zH x1
 have HX := zH x2
 have HAV := zH x3
 have HV2 := zH x4
 have HB := zH x5
 have HS := zH x6
 have HT := zH (Step.refl wm)
 clear x1 x2 x3 x4 x5 x6
 go_upto_region 5 with (fail)
 have n0 := (HB.out.step HT.out).cell 0
 have n1 := (HB.out.step HT.out).cell 1
 have n2 := (HB.out.step HT.out).cell 2
 have n3 := (HB.out.step HT.out).cell 3
 simp only [zD, zE] at n0 n1 n2 n3
 go_wp2_with fail
 refine (RightS_any s _ _ (AV.go HAV.out HT.out)).mono ?_
 rintro e wn ⟨rfl, hSn⟩
 have HTi := zH (HT.out.trans hSn)
 clear hSn HT
 have HT := HTi
 clear HTi
 clear n0 n1 n2 n3
 cases hs : siteB s with
 | false =>
  have HCD := zH (planC_site (limits := limits) (worst := worst) (now := now) (out := out) hs)
  clear hs
  have hpe := planE HCD.out (by decide)
  obtain rfl : pc = 1 := by rw [HPC.out.1, HCD.out]
  obtain rfl : cl = 0 := by rw [HPC.out.2.2, hpe.2]
  have d9 : ((pl.length : Int) == 0) = true := by rw [HPC.out.2.1, hpe.1]; rfl
  clear hpe
  go_wp2_with fail
  refine (gwakes_any _).mono ?_
  rintro e wn ⟨rfl, hSn⟩
  go_wp2
  go_ret
  exact ⟨rfl, HS.out.trans (HT.out.trans hSn)⟩
 | true =>
 have HSB := zH hs
 have HN := zH (site_ok hs).nst
 clear hs
 have HER := zH (fun (h : askedB s limits worst now out = false) => planC_asked HSB.out h)
 have HAS := zH (show askedB s limits worst now out = (limitedB s limits && windsB worst && withinB now 0 ((s.stages.length : Int) - 1) && withinB out 0 60) from rfl)
 have n0 := (HB.out.step HT.out).cell 0
 have n1 := (HB.out.step HT.out).cell 1
 have n2 := (HB.out.step HT.out).cell 2
 have n3 := (HB.out.step HT.out).cell 3
 simp only [zD, zE] at n0 n1 n2 n3
 go_wp2_with fail
 refine (RLimited_any s limits _ _ _ (AV.go HAV.out HT.out) (SL.go HV.out HT.out) (by have := HN.out; omega) (by have := HLL.out; omega)).mono ?_
 rintro e wn ⟨rfl, hSn⟩
 have HTi := zH (HT.out.trans hSn)
 clear hSn HT
 have HT := HTi
 clear HTi
 clear n0 n1 n2 n3
 cases q1 : limitedB s limits with
 | false =>
  have HCD := zH (HER.out (by rw [HAS.out, q1]; rfl))
  clear q1
  have hpe := planE HCD.out (by decide)
  obtain rfl : pc = 2 := by rw [HPC.out.1, HCD.out]
  obtain rfl : cl = 0 := by rw [HPC.out.2.2, hpe.2]
  have d9 : ((pl.length : Int) == 0) = true := by rw [HPC.out.2.1, hpe.1]; rfl
  clear hpe
  go_wp2_with fail
  refine (gwakes_any _).mono ?_
  rintro e wn ⟨rfl, hSn⟩
  go_wp2
  go_ret
  exact ⟨rfl, HS.out.trans (HT.out.trans hSn)⟩
 | true =>
 have HQ1 := zH q1
 clear q1
 go_wp2_with fail
 refine (RWinds_any worst _ _ (SL.go HX.out HT.out)).mono ?_
 rintro e wn ⟨rfl, hSn⟩
 have HTi := zH (HT.out.trans hSn)
 clear hSn HT
 have HT := HTi
 clear HTi
 cases q2 : windsB worst with
 | false =>
  have HCD := zH (HER.out (by rw [HAS.out, q2]; simp))
  clear q2
  have hpe := planE HCD.out (by decide)
  obtain rfl : pc = 2 := by rw [HPC.out.1, HCD.out]
  obtain rfl : cl = 0 := by rw [HPC.out.2.2, hpe.2]
  have d9 : ((pl.length : Int) == 0) = true := by rw [HPC.out.2.1, hpe.1]; rfl
  clear hpe
  go_wp2_with fail
  refine (gwakes_any _).mono ?_
  rintro e wn ⟨rfl, hSn⟩
  go_wp2
  go_ret
  exact ⟨rfl, HS.out.trans (HT.out.trans hSn)⟩
 | true =>
 have HQ2 := zH q2
 clear q2
 have n2 := (HB.out.step HT.out).cell 2
 simp only [zD, zE] at n2
 have hwl : IntKind.i64.wrap ((s.stages.length : Int) - 1) = (s.stages.length : Int) - 1 := by have := HN.out; rw [IntKind.wrap_i64]; omega
 go_wp2_with fail
 refine (bigtopref01.In_any _ _ _ _).mono ?_
 rintro e wx ⟨rfl, rfl⟩
 cases q3 : withinB now 0 ((s.stages.length : Int) - 1) with
 | false =>
  have HCD := zH (HER.out (by rw [HAS.out, q3]; simp))
  clear q3
  have hpe := planE HCD.out (by decide)
  obtain rfl : pc = 2 := by rw [HPC.out.1, HCD.out]
  obtain rfl : cl = 0 := by rw [HPC.out.2.2, hpe.2]
  have d9 : ((pl.length : Int) == 0) = true := by rw [HPC.out.2.1, hpe.1]; rfl
  clear hpe
  go_wp2_with fail
  refine (gwakes_any _).mono ?_
  rintro e wn ⟨rfl, hSn⟩
  go_wp2
  go_ret
  exact ⟨rfl, HS.out.trans (HT.out.trans hSn)⟩
 | true =>
 have HQ3 := zH q3
 clear q3
 go_wp2_with fail
 refine (bigtopref01.In_any _ _ _ _).mono ?_
 rintro e wx ⟨rfl, rfl⟩
 cases q4 : withinB out 0 60 with
 | false =>
  have HCD := zH (HER.out (by rw [HAS.out, q4]; simp))
  clear q4
  have hpe := planE HCD.out (by decide)
  obtain rfl : pc = 2 := by rw [HPC.out.1, HCD.out]
  obtain rfl : cl = 0 := by rw [HPC.out.2.2, hpe.2]
  have d9 : ((pl.length : Int) == 0) = true := by rw [HPC.out.2.1, hpe.1]; rfl
  clear hpe
  go_wp2_with fail
  refine (gwakes_any _).mono ?_
  rintro e wn ⟨rfl, hSn⟩
  go_wp2
  go_ret
  exact ⟨rfl, HS.out.trans (HT.out.trans hSn)⟩
 | true =>
 have HQ4 := zH q4
 clear q4 n2 hwl
 have HAK := zH (show askedB s limits worst now out = true by rw [HAS.out, HQ1.out, HQ2.out, HQ3.out, HQ4.out]; rfl)
 have b3 : 0 ≤ now ∧ now ≤ (s.stages.length : Int) - 1 := by simpa [withinB] using HQ3.out
 have b4 : 0 ≤ out ∧ out ≤ 60 := by simpa [withinB] using HQ4.out
 obtain ⟨n, rfl⟩ : ∃ n : Nat, now = n := ⟨now.toNat, by omega⟩
 have HNB := zH (And.intro (show n < s.stages.length by omega) b4)
 clear b3 b4
 have n0 := (HB.out.step HT.out).cell 0
 have n1 := (HB.out.step HT.out).cell 1
 have n2 := (HB.out.step HT.out).cell 2
 have n3 := (HB.out.step HT.out).cell 3
 simp only [zD, zE] at n0 n1 n2 n3
 go_wp2_with fail
 refine (RPlan_any s limits worst n out _ _ _ _ (AV.go HAV.out HT.out) (SL.go HV.out HT.out) (SL.go HX.out HT.out) HSB.out HQ1.out HQ2.out HNB.out.1 HNB.out.2).mono ?_
 rintro e wr ⟨hpr, hSn⟩
 have HTi := zH (HT.out.trans hSn)
 clear HT hSn
 have HT := HTi
 clear HTi
 clear n0 n1 n2 n3
 rcases hpr with ⟨hr, rfl⟩ | ⟨st, va, hr, rfl, hva⟩
 ·have HCD := zH (planC_none HSB.out HAK.out hr)
  clear hr
  have hpe := planE HCD.out (by decide)
  obtain rfl : pc = 11 := by rw [HPC.out.1, HCD.out]
  obtain rfl : cl = 0 := by rw [HPC.out.2.2, hpe.2]
  have d9 : ((pl.length : Int) == 0) = true := by rw [HPC.out.2.1, hpe.1]; rfl
  clear hpe
  go_wp2_with fail
  refine (gwakes_any _).mono ?_
  rintro e wn ⟨rfl, hSn⟩
  go_wp2
  go_ret
  exact ⟨rfl, HS.out.trans (HT.out.trans hSn)⟩
 have HR := zH hr
 have hps := planC_some HSB.out HAK.out hr
 obtain rfl : pc = 0 := by rw [HPC.out.1, hps.1]
 obtain rfl : pl = st.begin_ := by rw [HPC.out.2.1, hps.2.1]
 obtain rfl : cl = st.call := by rw [HPC.out.2.2, hps.2.2]
 clear hr hps hva HPC
 have n0 := (HB.out.step HT.out).cell 0
 have n1 := (HB.out.step HT.out).cell 1
 have n2 := (HB.out.step HT.out).cell 2
 have n3 := (HB.out.step HT.out).cell 3
 simp only [zD, zE] at n0 n1 n2 n3
 go_wp2_with fail
 refine (RPlan_any s limits worst n out _ _ _ _ (AV.go HAV.out HT.out) (SL.go HV.out HT.out) (SL.go HX.out HT.out) HSB.out HQ1.out HQ2.out HNB.out.1 HNB.out.2).mono ?_
 rintro e wr2 ⟨hpr, hSn⟩
 have HTi := zH (HT.out.trans hSn)
 clear HT
 have HT := HTi
 clear HTi
 clear n0 n1 n2 n3
 rcases hpr with ⟨hr2, rfl⟩ | ⟨st2, vb2, hr2, rfl, hvb2⟩
 ·exact absurd (HR.out.symm.trans hr2) (by simp)
 obtain rfl : st = st2 := Option.some.inj (HR.out.symm.trans hr2)
 obtain ⟨p7, c7, rfl⟩ := hvb2.form
 have HVB2 := zH (SL.go hvb2 (Step.refl wr2))
 clear hvb2 hr2 hSn
 go_wp2_with fail
 have hin := gints_any (fun _ => False) st.begin_ st.begin_ _ _ _ (SL.go HVB.out HT.out) HVB2.out
 rw [show intsB st.begin_ st.begin_ = true by simp [intsB]] at hin
 refine hin.mono ?_
 clear hin
 rintro e wi ⟨rfl, hSn⟩
 have HTi := zH (HT.out.trans hSn)
 clear HT hSn
 have HT := HTi
 clear HTi
 have d9 : (st.call == st.call) = true := by simp
 go_wp2_with fail
 refine (gwakes_any _).mono ?_
 rintro e wn ⟨rfl, hSn⟩
 go_wp2
 go_ret
 exact ⟨rfl, HS.out.trans (HT.out.trans hSn)⟩
end Go.Proofs.Ytfhmdpicoccnfaa
namespace Go.Proofs.Ytfhmdpicoccnfaa.plans
open Go.ChangeShapes Go.WideShapes Go.ChangeAt Go.RowKit Go.BT
set_option linter.unusedVariables false
set_option linter.unusedSimpArgs false
theorem lifted (os : Os) (started : os.Started) (H : Type) (enc : TypeId × Value → H) :
  ReturnsInHanded {} Try.checked os 4 .any (Rows.galePlansSpec.pre6 enc Try.prog Try.f4 Rows.galePlansRow.domain false) (Rows.galePlansSpec.post enc Try.prog Try.f4 false true false false) := by
 refine returnsInHanded_of_change (C := Try.checked) own started (by kernel_rfl) Try.func4
  (ChangeSpec.witness6 (enc := enc) (C := Try.checked) false ⟨#[], #[.agg #[.slice none 0 0, .slice none 0 0, .slice none 0 0, .int .i64 0], .slice none 0 0, .slice none 0 0, .int .i64 0, .int .i64 0], []⟩ 8 (by kernel_rfl) (by kernel_rfl) (by kernel_rfl) (by kernel_rfl)) ?_
 intro W base args ds gs before hval0 hW hcnd _
 have hval : ∀ (j : Nat) t v, Try.f4.params[j]? = some t → args[j]? = some v → Value.okWide Try.prog W .any base t v := hval0
 have hW' := hW
 obtain ⟨p, q, hA0, hV, rfl, hfz, hnd⟩ := hW
 have hA : DataW.TrodAll enc Try.prog W 0 (fun _ => true) true Try.f4.params.toList args.toList ds p := hA0
 have hAk := hA
 rw [Try.params4] at hA hval
 obtain ⟨v0, vs0, d0, ds0, p0, q0, hargs, rfl, rfl, h0, r0⟩ := trodAll_cons hA
 obtain ⟨v1, vs1, d1, ds1, p1, q1, rfl, rfl, rfl, h1, r1⟩ := trodAll_cons r0
 obtain ⟨v2, vs2, d2, ds2, p2, q2, rfl, rfl, rfl, h2, r2⟩ := trodAll_cons r1
 obtain ⟨v3, vs3, d3, ds3, p3, q3, rfl, rfl, rfl, h3, r3⟩ := trodAll_cons r2
 obtain ⟨v4, vs4, d4, ds4, p4, q4, rfl, rfl, rfl, h4, r4⟩ := trodAll_cons r3
 obtain ⟨rfl, rfl, rfl⟩ := trodAll_nil r4
 obtain rfl : args = #[v0, v1, v2, v3, v4] := by cases args; simp_all
 obtain ⟨rfl, rfl⟩ := trodVars_none hV
 obtain ⟨a0, hh0⟩ := av_of opens_Site Try.underlying55 (hval 0 55 v0 rfl rfl) h0
 obtain ⟨a1, hh1⟩ := sl_of opens_ints Try.underlying26 (hval 1 26 v1 rfl rfl) h1
 obtain ⟨a2, hh2⟩ := sl_of opens_ints Try.underlying26 (hval 2 26 v2 rfl rfl) h2
 obtain ⟨a3, rfl, rfl, rfl, w3⟩ := open_int Try.underlying3 (hval 3 3 v3 rfl rfl) h3
 obtain ⟨a4, rfl, rfl, rfl, w4⟩ := open_int Try.underlying3 (hval 4 3 v4 rfl rfl) h4
 clear hA0 hval0
 refine (GalePlans_any a0 a1 a2 a3 a4 v0 v1 v2 W hh0 hh1 hh2).mono fun e W' ⟨he, hg⟩ => ?_
 subst he
 have hlt := hW'.lt
 refine ⟨_, rfl, post_of_below (pv := []) hW' (fun _ _ _ => (trodAll_cons_mk (shut_bool Try.underlying4 _) trodAll_mk0)) (fun sp hs => all_stays laid hg.below (fun t ht => ?_) hAk (fun x hx => hlt x (by simpa using hx)) (fun x hx => hs x (by simpa using hx))) (fun _ _ => rfl) rfl hg.below (ok_one (by kernel_rfl) rfl (okWide_bool_mk Try.underlying4 _))⟩
 rw [Try.params4] at ht
 have : ∀ t ∈ [55, 26, 26, 3, 3], Try.prog.readableRec t = true ∧ t < Try.prog.types.size := by
  intro t ht
  simp only [List.mem_cons, List.not_mem_nil, or_false] at ht
  rcases ht with rfl | rfl | rfl | rfl | rfl <;> exact ⟨by kernel_rfl, of_decide_eq_true (by kernel_rfl)⟩
 exact this t ht
theorem over : Rows.galePlansRow.holds Try.pinned (OpenSpec.ofChange Rows.galePlansSpec) :=
 OpenClaim.holds_of_wide 4 Try.f4 rfl rfl rfl rfl rfl rfl rfl ⟨rfl, rfl, rfl, rfl, rfl⟩ rfl rfl rfl rfl rfl (by kernel_rfl) Try.func4 (by kernel_rfl)
  (of_decide_eq_true (by kernel_rfl)) (by unfold Func.isWrapper; first | (rw [if_pos (by decide +kernel)]; kernel_rfl) | (rw [if_neg (by decide +kernel)]; exact ⟨rfl, rfl⟩))
  (fun os started H enc _ => lifted os started H enc)
theorem proved : Rows.GalePlansSaid := over
end Go.Proofs.Ytfhmdpicoccnfaa.plans
