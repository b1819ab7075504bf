/- Walks and plain laws, part S. -/
import Derived.Test.YtfhmdpicoccnfaaMA
import Derived.Test.YtfhmdpicoccnfaaMR
import Derived.Test.YtfhmdpicoccnfaaRows
set_option maxHeartbeats 16000000
set_option maxRecDepth 100000
namespace Go.Proofs.Ytfhmdpicoccnfaa
set_option linter.unusedSimpArgs false
set_option linter.unusedVariables false
open Go.RowKit Go.BT
theorem GaleDown_any (s : Site) (limits worst : List Int) (now out : Int) (u v x : Value) (w : World) (hu : AV (fun _ => False) w u s) (hv : SL (fun _ => False) w v limits) (hx : SL (fun _ => False) w x worst) :
  Calls Try.prog 8 #[u, v, x, .int .i64 now, .int .i64 out] w fun e w' => e = .returned (.bool true) ∧ Step w w' := by
 obtain ⟨c0, c1, c2, rfl, h0, h1, h2⟩ := hu.site
 obtain ⟨p0, k0, rfl⟩ := h0.form
 obtain ⟨p1, k1, rfl⟩ := h1.form
 obtain ⟨p2, k2, rfl⟩ := h2.form
 obtain ⟨W0, hW0⟩ : ∃ W, W = w.alloc (.cells #[.slice p0 s.base.length k0, .slice p1 s.levels.length k1, .slice p2 s.stages.length k2, .int .i64 s.openS] 55) := ⟨_, rfl⟩
 have hS : Step w W0 := by subst hW0; exact Step.alloc _ _
 have HB := zH (show Bx W0 w.heap.size [.slice p0 s.base.length k0, .slice p1 s.levels.length k1, .slice p2 s.stages.length k2, .int .i64 s.openS] 55 by subst hW0; exact Bx.new w [_, _, _, _] _)
 have HV := zH (SL.go hv hS)
 have HX := zH (SL.go hx hS)
 have HAV := zH (AV.go hu hS)
 have HV2 := zH (SL.go h2 hS)
 have HS := zH hS
 have HT := zH (Step.refl W0)
 have HW := zH hW0
 obtain ⟨pv, cv, rfl⟩ := hv.form
 obtain ⟨px, cx, rfl⟩ := hx.form
 clear hS hW0 hu hv hx h0 h1 h2
 go_enter Try.func8, Try.ntmps8
 go_upto_region 1 with (fail)
 rw [← HW.out]
 have n0 := (HB.out.step HT.out).cell 0
 have n1 := (HB.out.step HT.out).cell 1
 have n2 := (HB.out.step HT.out).cell 2
 have n3 := (HB.out.step HT.out).cell 3
 simp only [zD, zE] at n0 n1 n2 n3
 go_wp2_with fail
 refine (smallSite_any (fun _ => False) s _ _ (AV.go HAV.out HT.out)).mono ?_
 rintro e wn ⟨rfl, hSn⟩
 have HTi := zH (HT.out.trans hSn)
 clear hSn HT
 have HT := HTi
 clear HTi
 clear n0 n1 n2 n3
 cases qs : smallB s with
 | false =>
  clear qs
  go_wp2_with fail
  refine (gwakes_any _).mono ?_
  rintro e wn ⟨rfl, hSn⟩
  go_wp2
  go_ret
  exact ⟨rfl, HS.out.trans (HT.out.trans hSn)⟩
 | true =>
 have HSM := zH (show s.base.length ≤ 15 ∧ s.levels.length ≤ 15 ∧ s.stages.length ≤ 15 by
  simp only [smallB, Bool.and_eq_true, decide_eq_true_eq] at qs; exact ⟨qs.1.1, qs.1.2, qs.2⟩)
 clear qs
 by_cases ql : limits.length ≤ 15
 rotate_left
 ·have d0 : decide (15 < (limits.length : Int)) = true := decide_eq_true (by omega)
  have d0n : decide (15 < limits.length) = true := decide_eq_true (by omega)
  clear ql
  go_wp2_with fail
  refine (gwakes_any _).mono ?_
  rintro e wn ⟨rfl, hSn⟩
  go_wp2
  go_ret
  exact ⟨rfl, HS.out.trans (HT.out.trans hSn)⟩
 have d0 : decide (15 < (limits.length : Int)) = false := decide_eq_false (by omega)
 have d0n : decide (15 < limits.length) = false := decide_eq_false (by omega)
 by_cases qw : worst.length ≤ 60
 rotate_left
 ·have d1 : decide (60 < (worst.length : Int)) = true := decide_eq_true (by omega)
  have d1n : decide (60 < worst.length) = true := decide_eq_true (by omega)
  clear ql qw
  go_wp2_with fail
  refine (gwakes_any _).mono ?_
  rintro e wn ⟨rfl, hSn⟩
  go_wp2
  go_ret
  exact ⟨rfl, HS.out.trans (HT.out.trans hSn)⟩
 have d1 : decide (60 < (worst.length : Int)) = false := decide_eq_false (by omega)
 have d1n : decide (60 < worst.length) = false := decide_eq_false (by omega)
 have HLL := zH (And.intro ql qw)
 clear ql qw
 have n0 := (HB.out.step HT.out).cell 0
 have n1 := (HB.out.step HT.out).cell 1
 have n2 := (HB.out.step HT.out).cell 2
 have n3 := (HB.out.step HT.out).cell 3
 simp only [zD, zE] at n0 n1 n2 n3
 go_wp2_with fail
 refine (RightS_any s _ _ (AV.go HAV.out HT.out)).mono ?_
 rintro e wn ⟨rfl, hSn⟩
 have HTi := zH (HT.out.trans hSn)
 clear hSn HT
 have HT := HTi
 clear HTi
 clear n0 n1 n2 n3
 cases q1 : siteB s with
 | false =>
  clear q1
  go_wp2_with fail
  refine (gwakes_any _).mono ?_
  rintro e wn ⟨rfl, hSn⟩
  go_wp2
  go_ret
  exact ⟨rfl, HS.out.trans (HT.out.trans hSn)⟩
 | true =>
 have HSB := zH q1
 have HN := zH (site_ok q1).nst
 clear q1
 have n0 := (HB.out.step HT.out).cell 0
 have n1 := (HB.out.step HT.out).cell 1
 have n2 := (HB.out.step HT.out).cell 2
 have n3 := (HB.out.step HT.out).cell 3
 simp only [zD, zE] at n0 n1 n2 n3
 go_wp2_with fail
 refine (RLimited_any s limits _ _ _ (AV.go HAV.out HT.out) (SL.go HV.out HT.out) (by have := HN.out; omega) (by have := HLL.out; omega)).mono ?_
 rintro e wn ⟨rfl, hSn⟩
 have HTi := zH (HT.out.trans hSn)
 clear hSn HT
 have HT := HTi
 clear HTi
 clear n0 n1 n2 n3
 cases q1 : limitedB s limits with
 | false =>
  clear q1
  go_wp2_with fail
  refine (gwakes_any _).mono ?_
  rintro e wn ⟨rfl, hSn⟩
  go_wp2
  go_ret
  exact ⟨rfl, HS.out.trans (HT.out.trans hSn)⟩
 | true =>
 have HQ1 := zH q1
 clear q1
 go_wp2_with fail
 refine (RWinds_any worst _ _ (SL.go HX.out HT.out)).mono ?_
 rintro e wn ⟨rfl, hSn⟩
 have HTi := zH (HT.out.trans hSn)
 clear hSn HT
 have HT := HTi
 clear HTi
 cases q1 : windsB worst with
 | false =>
  clear q1
  go_wp2_with fail
  refine (gwakes_any _).mono ?_
  rintro e wn ⟨rfl, hSn⟩
  go_wp2
  go_ret
  exact ⟨rfl, HS.out.trans (HT.out.trans hSn)⟩
 | true =>
 have HQ2 := zH q1
 clear q1
 have n2 := (HB.out.step HT.out).cell 2
 simp only [zD, zE] at n2
 have hwl : IntKind.i64.wrap ((s.stages.length : Int) - 1) = (s.stages.length : Int) - 1 := by have := HN.out; rw [IntKind.wrap_i64]; omega
 go_wp2_with fail
 refine (bigtopref01.In_any _ _ _ _).mono ?_
 rintro e wx ⟨rfl, rfl⟩
 cases q1 : withinB now 0 ((s.stages.length : Int) - 1) with
 | false =>
  clear q1
  go_wp2_with fail
  refine (gwakes_any _).mono ?_
  rintro e wn ⟨rfl, hSn⟩
  go_wp2
  go_ret
  exact ⟨rfl, HS.out.trans (HT.out.trans hSn)⟩
 | true =>
 have HQ3 := zH q1
 clear q1
 go_wp2_with fail
 refine (bigtopref01.In_any _ _ _ _).mono ?_
 rintro e wx ⟨rfl, rfl⟩
 cases q1 : withinB out 0 60 with
 | false =>
  clear q1
  go_wp2_with fail
  refine (gwakes_any _).mono ?_
  rintro e wn ⟨rfl, hSn⟩
  go_wp2
  go_ret
  exact ⟨rfl, HS.out.trans (HT.out.trans hSn)⟩
 | true =>
 have HQ4 := zH q1
 clear q1 n2 hwl
 have HAK := zH (show askedB s limits worst now out = true by
  unfold askedB; rw [HQ1.out, HQ2.out, HQ3.out, HQ4.out]; rfl)
 have n0 := (HB.out.step HT.out).cell 0
 have n1 := (HB.out.step HT.out).cell 1
 have n2 := (HB.out.step HT.out).cell 2
 have n3 := (HB.out.step HT.out).cell 3
 simp only [zD, zE] at n0 n1 n2 n3
 go_wp2_with fail
 refine (SiteL_any (fun _ => False) s _ _ (AV.go HAV.out HT.out) (by have := HSM.out; omega) (by have := HSM.out; omega) (by have := HSM.out; omega)).mono ?_
 rintro e wn ⟨vs, rfl, hvs, hSn⟩
 have HTi := zH (HT.out.trans hSn)
 have HVS := zH (AV.go hvs (Step.refl wn))
 clear HT hSn hvs
 have HT := HTi
 clear HTi
 clear n0 n1 n2 n3
 clear d0 d0n d1 d1n
 have hsl := (HV.out.keep (.of_step HT.out))
 have hll := HLL.out.1
 go_wp2_with (at_builtin; refine wpl_append (α := Int) (S := fun _ => False) (base := wn.heap.size) (v := .slice (some ⟨wn.heap.size, 0, none⟩) 0 0) (l := []) (m := limits) eiInts rfl _ _ rfl rfl rfl ⟨[], World.ownsRow_lit wn #[] 0 (Nat.le_refl _) (by simp [maxLen]) (by simp), fun i h => absurd h (by simp)⟩ (SL.flat _ (hsl.keep (.alloc _ _))) limits.length (by simp) limits rfl ?_ ?_ ?_ ?_)
 ·simp only [maxLen]; omega
 ·omega
 ·simp
 intro pz cz wz hown hg
 have hX : Step wn wz := .of (((Below.refl _ wn).alloc (Nat.le_refl _) _).grown hg (by simp) (by simp [Value.ownBlock]))
 have HSLZ := zH ((ownL_flat (fun _ => False) hown).slb fun _ _ h => h)
 have HSTZ := zH hX
 have HTi := zH (HT.out.trans hX)
 clear hown hg HT hX hsl hll
 have HT := HTi
 clear HTi
 have HVS2 := zH (AV.go HVS.out HSTZ.out)
 have HL2 := HSLZ
 clear HVS HSTZ HSLZ
 have hsl := (HX.out.keep (.of_step HT.out))
 have hll := HLL.out.2
 go_wp2_with (at_builtin; refine wpl_append (α := Int) (S := fun _ => False) (base := wz.heap.size) (v := .slice (some ⟨wz.heap.size, 0, none⟩) 0 0) (l := []) (m := worst) eiInts rfl _ _ rfl rfl rfl ⟨[], World.ownsRow_lit wz #[] 0 (Nat.le_refl _) (by simp [maxLen]) (by simp), fun i h => absurd h (by simp)⟩ (SL.flat _ (hsl.keep (.alloc _ _))) worst.length (by simp) worst rfl ?_ ?_ ?_ ?_)
 ·simp only [maxLen]; omega
 ·omega
 ·simp
 intro pz cz wy hown hg
 have hX : Step wz wy := .of (((Below.refl _ wz).alloc (Nat.le_refl _) _).grown hg (by simp) (by simp [Value.ownBlock]))
 have HSLZ := zH ((ownL_flat (fun _ => False) hown).slb fun _ _ h => h)
 have HSTZ := zH hX
 have HTi := zH (HT.out.trans hX)
 clear hown hg HT hX hsl hll
 have HT := HTi
 clear HTi
 have HVS3 := zH (AV.go HVS2.out HSTZ.out)
 have HL3 := zH (SL.go HL2.out HSTZ.out)
 have HX3 := HSLZ
 clear HVS2 HL2 HSTZ HSLZ
 go_wp2_with fail
 refine (PlanG_any s limits worst now out _ _ _ _ HVS3.out HL3.out HX3.out).mono ?_
 rintro e wm ⟨⟨vb, rfl, hvb⟩, hSn⟩
 have HTi := zH (HT.out.trans hSn)
 clear HT hSn HVS3 HL3 HX3
 have HT := HTi
 clear HTi
 obtain ⟨pc, hpc⟩ : ∃ c, c = planC s limits worst now out := ⟨_, rfl⟩
 obtain ⟨pl, hpl⟩ : ∃ c, c = planB s limits worst now out := ⟨_, rfl⟩
 obtain ⟨cl, hcl⟩ : ∃ c, c = planCall s limits worst now out := ⟨_, rfl⟩
 rw [← hpl] at hvb
 rw [← hpc, ← hcl]
 have HPC := zH (And.intro hpc (And.intro hpl hcl))
 obtain ⟨pb, cb, rfl⟩ := hvb.form
 have HVB := zH (SL.go hvb (Step.refl wm))
 clear hpc hpl hcl hvb
 have x1 := SL.go HV.out HT.out
 have x2 := SL.go HX.out HT.out
 have x3 := AV.go HAV.out HT.out
 have x4 := SL.go HV2.out HT.out
 have x5 := HB.out.step HT.out
 have x6 := HS.out.trans HT.out
 clear HV HX HAV HV2 HB HS HT
 have HV := zH x1
 have HX := zH x2
 have HAV := zH x3
 have HV2 := zH x4
 have HB := zH x5
 have HS := zH x6
 have HT := zH (Step.refl wm)
 clear x1 x2 x3 x4 x5 x6
 have b3 : 0 ≤ now ∧ now ≤ (s.stages.length : Int) - 1 := by simpa [withinB] using HQ3.out
 have b4 : 0 ≤ out ∧ out ≤ 60 := by simpa [withinB] using HQ4.out
 obtain ⟨n, rfl⟩ : ∃ n : Nat, now = n := ⟨now.toNat, by omega⟩
 have HNB := zH (And.intro (show n < s.stages.length by omega) b4)
 clear b3 b4
 cases hr : planR s limits worst n out with
 | none =>
  obtain rfl : pc = 11 := by rw [HPC.out.1, planC_none HSB.out HAK.out hr]
  clear hr
  go_wp2_with fail
  refine (gwakes_any _).mono ?_
  rintro e wn ⟨rfl, hSn⟩
  go_wp2
  go_ret
  exact ⟨rfl, HS.out.trans (HT.out.trans hSn)⟩
 | some st =>
 have HR := zH hr
 have hps := planC_some HSB.out HAK.out hr
 obtain rfl : pc = 0 := by rw [HPC.out.1, hps.1]
 obtain rfl : pl = st.begin_ := by rw [HPC.out.2.1, hps.2.1]
 obtain rfl : cl = st.call := by rw [HPC.out.2.2, hps.2.2]
 have hbl : st.begin_.length = s.stages.length := by
  unfold planR at hr; rw [Int.toNat_natCast] at hr
  exact (plan_begin (s.stages.length - n) (by have := HNB.out.1; omega) st hr).1
 rw [hbl] at HVB
 rw [hbl]
 have HBL := zH hbl
 clear hr hps HPC hbl
 have hl1 := HLL.out
 obtain ⟨qb, db, bb, ob, he, _, _, hpb, hcb, _⟩ := HVB.out.ints
 rw [HBL.out] at he
 injection he with he1 _ he3
 subst he1 he3
 obtain rfl := hpb (by have := HBL.out; have := HN.out; omega)
 have HCB := zH (fun (i : Nat) (hi : i < s.stages.length) => show wm.cell? ⟨bb, ob + i, none⟩ = some (.int .i64 (st.begin_.getD i 0)) by
  have hi2 : i < st.begin_.length := by have := HBL.out; omega
  rw [List.getD_eq_getElem?_getD, List.getElem?_eq_getElem hi2]; exact hcb i hi2)
 have hll := (limited_parts HQ1.out).1
 obtain ⟨ql, dl, bl, ol, he, _, _, hpl, hcl, _⟩ := HV.out.ints
 injection he with he1 _ he3
 subst he1 he3
 obtain rfl := hpl (by have := HN.out; omega)
 have HCL := zH (fun (i : Nat) (hi : i < s.stages.length) => show wm.cell? ⟨bl, ol + i, none⟩ = some (.int .i64 (limits.getD i 0)) by
  have hi2 : i < limits.length := by omega
  rw [List.getD_eq_getElem?_getD, List.getElem?_eq_getElem hi2]; exact hcl i hi2)
 have HLE := zH hll
 have HWLN := zH (show 1 ≤ worst.length ∧ worst.length ≤ 48 by
  have h2 := HQ2.out
  simp only [windsB, Bool.and_eq_true, decide_eq_true_eq] at h2
  exact h2.1)
 obtain ⟨qx, dx, bx, ox, he, _, _, hpx, hcx, _⟩ := HX.out.ints
 injection he with he1 _ he3
 subst he1 he3
 obtain rfl := hpx (by have := HWLN.out; omega)
 have HCX := zH (fun (i : Nat) (hi : i < worst.length) => show wm.cell? ⟨bx, ox + i, none⟩ = some (.int .i64 (worst.getD i 0)) by
  rw [List.getD_eq_getElem?_getD, List.getElem?_eq_getElem hi]; exact hcx i hi)
 obtain ⟨q2, d2, bs, os, he, _, _, hp2, hc2, _⟩ := HV2.out.stgs
 injection he with he1 _ he3
 subst he1 he3
 obtain rfl := hp2 (by have := HN.out; omega)
 have HCS := zH (fun (i : Nat) (hi : i < s.stages.length) => show wm.cell? ⟨bs, os + i * 2 + 1, none⟩ = some (.int .i64 (minutesAt s i)) by
  rw [(minutes_ok (site_ok HSB.out) hi).1]; exact (hc2 i hi).2)
 rw [hll]
 clear hpb hcb hpl hcl hpx hcx hp2 hc2 hll hl1
 have n2 := (HB.out.step HT.out).cell 2
 simp only [zD, zE] at n2
 go_wp2
 clear n2
 go_loopw [14, 15] (fun sg mi wr => ∃ i m : Nat, (n ≤ i ∧ i < s.stages.length) ∧ m ≤ 60 * worst.length ∧ sg = .int .i64 i ∧ mi = .int .i64 m ∧ Step wm wr) (fun _ mi _ => 60 * worst.length - (intOf mi).toNat)
 case atStart => exact ⟨n, 0, ⟨Nat.le_refl _, HNB.out.1⟩, Nat.zero_le _, rfl, rfl, HT.out⟩
 case round =>
  obtain ⟨i, m, hi, hm, rfl, rfl, hT⟩ := hrel
  clear HT
  have HT := zH hT
  have hw60 : IntKind.i64.wrap (60 * (worst.length : Int)) = 60 * (worst.length : Int) := by have := HWLN.out; rw [IntKind.wrap_i64]; omega
  clear hT
  by_cases hlt : m < 60 * worst.length
  rotate_left
  ·have d0 : decide ((m : Int) < 60 * (worst.length : Int)) = false := decide_eq_false (by omega)
   have d0n : decide (m < 60 * worst.length) = false := decide_eq_false (by omega)
   clear hlt hm hi
   go_wp2_with fail
   refine (gwakes_any _).mono ?_
   rintro e wn ⟨rfl, hSn⟩
   go_wp2
   go_ret
   exact ⟨rfl, HS.out.trans (HT.out.trans hSn)⟩
  have d0 : decide ((m : Int) < 60 * (worst.length : Int)) = true := decide_eq_true (by omega)
  have d0n : decide (m < 60 * worst.length) = true := decide_eq_true (by omega)
  have HM := zH hlt
  have HI := zH hi
  clear hlt hm hi
  go_wp2
  clear hw60 d0 d0n
  go_loopw [14] (fun sg wr => ∃ i : Nat, (n ≤ i ∧ i < s.stages.length) ∧ sg = .int .i64 i ∧ Step wm wr) (fun sg _ => s.stages.length - (intOf sg).toNat)
  case atStart => exact ⟨i, HI.out, rfl, HT.out⟩
  case round =>
   clear HI
   obtain ⟨i, hi, rfl, hT⟩ := hrel
   have HI := zH hi
   clear HT
   have HT := zH hT
   clear hT hi
   have hin := HI.out.2
   have hixi : (0 : Int) ≤ (i : Int) ∧ (i : Int) < (s.stages.length : Int) := by omega
   have hwl : IntKind.i64.wrap ((s.stages.length : Int) - 1) = (s.stages.length : Int) - 1 := by have := HN.out; rw [IntKind.wrap_i64]; omega
   have c0 := HT.out.kc (HCB.out i hin)
   have c1 := HT.out.kc (HCS.out i hin)
   have n2 := (HB.out.step HT.out).cell 2
   simp only [zD, zE] at n2
   have hmn := site_minutes HSB.out i
   have hsm := fun h => keeps_small HNB.out.1 HR.out hin HI.out.1 h HWLN.out.2
   have hbear := zH (fun h => keeps_bear (i := i) (m := m) HSB.out HQ1.out HQ2.out HNB.out.1 HR.out hin HI.out.1 HM.out h)
   have hleave := zH (fun h1 h2 => keeps_leave (i := i) (site_minutes HSB.out) HNB.out.1 HR.out h1 HI.out.1 h2)
   obtain ⟨b, hb⟩ : ∃ b, b = st.begin_.getD i 0 := ⟨_, rfl⟩
   obtain ⟨mn, hmne⟩ : ∃ b, b = minutesAt s i := ⟨_, rfl⟩
   rw [← hb] at c0 hsm hbear hleave
   rw [← hmne] at c1 hmn hsm hbear hleave
   have HBM := zH (And.intro hb hmne)
   have HSMM := zH (And.intro hmn hsm)
   clear hb hmne
   go_upto_region 12 with (fail)
   (try simp only [Act.put, zA, zB, zC])
   obtain ⟨wz, hwz⟩ : ∃ W, W = wr := ⟨_, rfl⟩
   subst hwz
   go_cut [122] (fun c wx => ∃ x : Bool, c = .bool x ∧ (x = true → i + 1 < s.stages.length ∧ 0 ≤ b ∧ b + mn ≤ m) ∧ (x = false → i + 1 = s.stages.length ∨ b < 0 ∨ (m : Int) < b + mn) ∧ Step wz wx)
   case first =>
    by_cases q1 : i + 1 < s.stages.length
    rotate_left
    ·have d1 : decide ((i : Int) < (s.stages.length : Int) - 1) = false := decide_eq_false (by omega)
     have HQ := zH (show i + 1 = s.stages.length by omega)
     clear q1 hmn hsm hin
     go_quiet (fail)
     go_wp2
     go_meet
     exact ⟨false, rfl, fun h => absurd h (by simp), fun _ => .inl HQ.out, Step.drewN _ _⟩
    have d1 : decide ((i : Int) < (s.stages.length : Int) - 1) = true := decide_eq_true (by omega)
    by_cases q2 : 0 ≤ b
    rotate_left
    ·have d2 : decide (0 ≤ b) = false := decide_eq_false q2
     have HQ := zH (show b < 0 by omega)
     clear q1 q2 hmn hsm hin
     go_quiet (fail)
     go_wp2
     go_meet
     exact ⟨false, rfl, fun h => absurd h (by simp), fun _ => .inr (.inl HQ.out), Step.drewN _ _⟩
    have d2 : decide (0 ≤ b) = true := decide_eq_true q2
    have hs2 := hsm q2
    have hwb : IntKind.i64.wrap (b + mn) = b + mn := by rw [IntKind.wrap_i64]; omega
    by_cases q3 : b + mn ≤ (m : Int)
    rotate_left
    ·have d3 : decide (b + mn ≤ (m : Int)) = false := decide_eq_false q3
     have HQ := zH (show (m : Int) < b + mn by omega)
     clear q1 q2 q3 hmn hsm hin hs2
     go_quiet (fail)
     go_wp2
     go_meet
     exact ⟨false, rfl, fun h => absurd h (by simp), fun _ => .inr (.inr HQ.out), Step.drewN _ _⟩
    have d3 : decide (b + mn ≤ (m : Int)) = true := decide_eq_true q3
    have HQ := zH (And.intro q1 (And.intro q2 q3))
    clear q1 q2 q3 hmn hsm hin hs2
    go_quiet (fail)
    go_wp2
    go_meet
    exact ⟨true, rfl, fun _ => HQ.out, fun h => absurd h (by simp), Step.drewN _ _⟩
   case rest =>
    obtain ⟨x, rfl, hxt, hxf, hTc⟩ := hcut
    have HXX := zH (And.intro hxt hxf)
    have HTn := zH (HT.out.trans hTc)
    clear hxt hxf hTc c0 c1 n2 hmn hsm HT
    have HT := HTn
    clear HTn
    cases x with
    | false =>
     have HBE := zH (hbear.out (HXX.out.2 rfl))
     have hq60 : m / 60 < worst.length := by have := HM.out; omega
     have x0 := HT.out.kc (HCX.out (m / 60) hq60)
     have l0 := HT.out.kc (HCL.out i hin)
     have hdq : (m : Int).tdiv 60 = ((m / 60 : Nat) : Int) := by rw [Int.tdiv_eq_ediv_of_nonneg (by omega)]; omega
     obtain ⟨q, hq⟩ : ∃ q, q = m / 60 := ⟨_, rfl⟩
     rw [← hq] at hdq x0 HBE hq60
     have hwq : IntKind.i64.wrap ((m : Int).tdiv 60) = (q : Int) := by rw [hdq, IntKind.wrap_i64]; have := HWLN.out; omega
     have hwq2 : IntKind.i64.wrap ((m : Int) / 60) = (q : Int) := by rw [hq, IntKind.wrap_i64]; have := HWLN.out; omega
     have hixq : (0 : Int) ≤ (q : Int) ∧ (q : Int) < (worst.length : Int) := by omega
     obtain ⟨wv, hwv⟩ : ∃ y, y = worst.getD q 0 := ⟨_, rfl⟩
     obtain ⟨lv, hlv⟩ : ∃ y, y = limits.getD i 0 := ⟨_, rfl⟩
     rw [← hwv] at x0 HBE
     rw [← hlv] at l0 HBE
     have d4 : decide (lv < wv) = false := decide_eq_false (by have := HBE.out; omega)
     have hwm : IntKind.i64.wrap ((m : Int) + 1) = (m : Int) + 1 := by have := HM.out; have := HWLN.out; rw [IntKind.wrap_i64]; omega
     clear hdq hq hwv hlv hq60 hin
     go_upto_region 18 with (fail)
     go_quiet (fail)
     go_wp2
     go_roundw
     case rel => exact ⟨i, m + 1, HI.out, by have := HM.out; omega, rfl, by go_num, HT.out.trans (Step.drewN _ _)⟩
     case measure => have := HM.out; simp [intOf]; omega
    | true =>
     obtain ⟨hi1, hb0, hbm⟩ := HXX.out.1 rfl
     obtain ⟨hl1, hl2⟩ := hleave.out hi1 hb0
     have hmb : m < 2880 := by have := HM.out; have := HWLN.out; omega
     have c0 := HT.out.kc (HCB.out i hin)
     have c1 := HT.out.kc (HCS.out i hin)
     have c2 := HT.out.kc (HCB.out (i + 1) hi1)
     rw [← HBM.out.1] at c0
     rw [← HBM.out.2] at c1
     have hmn := HSMM.out.1
     have hwb : IntKind.i64.wrap (b + mn) = b + mn := by rw [IntKind.wrap_i64]; omega
     obtain ⟨b2, hb2⟩ : ∃ y, y = st.begin_.getD (i + 1) 0 := ⟨_, rfl⟩
     rw [← hb2] at c2 hl2
     have n2 := (HB.out.step HT.out).cell 2
     have n3 := (HB.out.step HT.out).cell 3
     simp only [zD, zE] at n2 n3
     have hix1 : (0 : Int) ≤ (i : Int) + 1 ∧ (i : Int) + 1 < (s.stages.length : Int) := by omega
     have htn : ((i : Int) + 1).toNat = i + 1 := by omega
     have hw1 : IntKind.i64.wrap ((i : Int) + 1) = (i : Int) + 1 := by have := HN.out; rw [IntKind.wrap_i64]; omega
     have HL2 := zH hl2
     have HL1 := zH hl1
     have HBB := zH (And.intro hb0 (And.intro hbm (And.intro hmb hmn)))
     obtain ⟨op, hop⟩ : ∃ y, y = s.openS := ⟨_, rfl⟩
     rw [← hop] at HL1 n3
     clear hb2 hl2 hl1 hmb hb0 hbm hmn hop hin hi1
     have HO4 := zH HNB.out.2
     go_upto_region 13 with (fail)
     (try simp only [Act.put, zA, zB, zC])
     go_cut [140] (fun c wx => c = .bool false ∧ wx = wc)
     case first =>
      by_cases ho : (i : Int) = op
      ·have dq : ((i : Int) == op) = true := by simpa using ho
       have hh := HL1.out ho
       have d5 : decide (st.call < 0) = false := decide_eq_false (by omega)
       have hbs := HBB.out
       have hwc : IntKind.i64.wrap (st.call + out) = st.call + out := by have := HO4.out; rw [IntKind.wrap_i64]; omega
       have d6 : decide (b < st.call + out) = false := decide_eq_false (by omega)
       clear hh hbs ho
       go_wp2
       go_meet
       exact ⟨rfl, rfl⟩
      ·have dq : ((i : Int) == op) = false := by simpa using ho
       clear ho
       go_wp2
       go_meet
       exact ⟨rfl, rfl⟩
     case rest =>
      obtain ⟨rfl, rfl⟩ := hcut
      go_upto_region 15 with (fail)
      obtain ⟨wy, hwy⟩ : ∃ W, W = wc := ⟨_, rfl⟩
      subst hwy
      go_cut [165] (fun c wx => c = .bool false ∧ Step wy wx)
      case first =>
       by_cases q1 : 0 ≤ b2
       ·have d5 : decide (0 ≤ b2) = true := decide_eq_true q1
        have d6 : decide (b2 < b + mn) = false := decide_eq_false (by have := HL2.out q1; omega)
        clear q1
        go_quiet (fail)
        go_wp2
        go_meet
        exact ⟨rfl, Step.drewN _ _⟩
       ·have d5 : decide (0 ≤ b2) = false := decide_eq_false q1
        clear q1
        go_quiet (fail)
        go_wp2
        go_meet
        exact ⟨rfl, Step.drewN _ _⟩
      case rest =>
       obtain ⟨rfl, hTc⟩ := hcut
       have HTn := zH (HT.out.trans hTc)
       clear hTc
       go_wp2
       go_roundw
       case rel => exact ⟨i + 1, ⟨by have := HI.out; omega, by have := hix1; omega⟩, by go_num, HTn.out⟩
       case measure => simp [intOf]; omega
end Go.Proofs.Ytfhmdpicoccnfaa
namespace Go.Proofs.Ytfhmdpicoccnfaa.down
open Go.ChangeShapes Go.WideShapes Go.ChangeAt Go.RowKit Go.BT
set_option linter.unusedVariables false
set_option linter.unusedSimpArgs false
theorem lifted (os : Os) (started : os.Started) (H : Type) (enc : TypeId × Value → H) :
  ReturnsInHanded {} Try.checked os 8 .any (Rows.galeDownSpec.pre6 enc Try.prog Try.f8 Rows.galeDownRow.domain false) (Rows.galeDownSpec.post enc Try.prog Try.f8 false true false false) := by
 refine returnsInHanded_of_change (C := Try.checked) own started (by kernel_rfl) Try.func8
  (ChangeSpec.witness6 (enc := enc) (C := Try.checked) false ⟨#[], #[.agg #[.slice none 0 0, .slice none 0 0, .slice none 0 0, .int .i64 0], .slice none 0 0, .slice none 0 0, .int .i64 0, .int .i64 0], []⟩ 8 (by kernel_rfl) (by kernel_rfl) (by kernel_rfl) (by kernel_rfl)) ?_
 intro W base args ds gs before hval0 hW hcnd _
 have hval : ∀ (j : Nat) t v, Try.f8.params[j]? = some t → args[j]? = some v → Value.okWide Try.prog W .any base t v := hval0
 have hW' := hW
 obtain ⟨p, q, hA0, hV, rfl, hfz, hnd⟩ := hW
 have hA : DataW.TrodAll enc Try.prog W 0 (fun _ => true) true Try.f8.params.toList args.toList ds p := hA0
 have hAk := hA
 rw [Try.params8] at hA hval
 obtain ⟨v0, vs0, d0, ds0, p0, q0, hargs, rfl, rfl, h0, r0⟩ := trodAll_cons hA
 obtain ⟨v1, vs1, d1, ds1, p1, q1, rfl, rfl, rfl, h1, r1⟩ := trodAll_cons r0
 obtain ⟨v2, vs2, d2, ds2, p2, q2, rfl, rfl, rfl, h2, r2⟩ := trodAll_cons r1
 obtain ⟨v3, vs3, d3, ds3, p3, q3, rfl, rfl, rfl, h3, r3⟩ := trodAll_cons r2
 obtain ⟨v4, vs4, d4, ds4, p4, q4, rfl, rfl, rfl, h4, r4⟩ := trodAll_cons r3
 obtain ⟨rfl, rfl, rfl⟩ := trodAll_nil r4
 obtain rfl : args = #[v0, v1, v2, v3, v4] := by cases args; simp_all
 obtain ⟨rfl, rfl⟩ := trodVars_none hV
 obtain ⟨a0, hh0⟩ := av_of opens_Site Try.underlying55 (hval 0 55 v0 rfl rfl) h0
 obtain ⟨a1, hh1⟩ := sl_of opens_ints Try.underlying26 (hval 1 26 v1 rfl rfl) h1
 obtain ⟨a2, hh2⟩ := sl_of opens_ints Try.underlying26 (hval 2 26 v2 rfl rfl) h2
 obtain ⟨a3, rfl, rfl, rfl, w3⟩ := open_int Try.underlying3 (hval 3 3 v3 rfl rfl) h3
 obtain ⟨a4, rfl, rfl, rfl, w4⟩ := open_int Try.underlying3 (hval 4 3 v4 rfl rfl) h4
 clear hA0 hval0
 refine (GaleDown_any a0 a1 a2 a3 a4 v0 v1 v2 W hh0 hh1 hh2).mono fun e W' ⟨he, hg⟩ => ?_
 subst he
 have hlt := hW'.lt
 refine ⟨_, rfl, post_of_below (pv := []) hW' (fun _ _ _ => (trodAll_cons_mk (shut_bool Try.underlying4 _) trodAll_mk0)) (fun sp hs => all_stays laid hg.below (fun t ht => ?_) hAk (fun x hx => hlt x (by simpa using hx)) (fun x hx => hs x (by simpa using hx))) (fun _ _ => rfl) rfl hg.below (ok_one (by kernel_rfl) rfl (okWide_bool_mk Try.underlying4 _))⟩
 rw [Try.params8] at ht
 have : ∀ t ∈ [55, 26, 26, 3, 3], Try.prog.readableRec t = true ∧ t < Try.prog.types.size := by
  intro t ht
  simp only [List.mem_cons, List.not_mem_nil, or_false] at ht
  rcases ht with rfl | rfl | rfl | rfl | rfl <;> exact ⟨by kernel_rfl, of_decide_eq_true (by kernel_rfl)⟩
 exact this t ht
theorem over : Rows.galeDownRow.holds Try.pinned (OpenSpec.ofChange Rows.galeDownSpec) :=
 OpenClaim.holds_of_wide 8 Try.f8 rfl rfl rfl rfl rfl rfl rfl ⟨rfl, rfl, rfl, rfl, rfl⟩ rfl rfl rfl rfl rfl (by kernel_rfl) Try.func8 (by kernel_rfl)
  (of_decide_eq_true (by kernel_rfl)) (by unfold Func.isWrapper; first | (rw [if_pos (by decide +kernel)]; kernel_rfl) | (rw [if_neg (by decide +kernel)]; exact ⟨rfl, rfl⟩))
  (fun os started H enc _ => lifted os started H enc)
theorem proved : Rows.GaleDownSaid := over
end Go.Proofs.Ytfhmdpicoccnfaa.down
