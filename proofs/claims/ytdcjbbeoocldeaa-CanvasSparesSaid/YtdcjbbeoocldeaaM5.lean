/- CanvasSpares holds of every input, and its arguments read afterwards as they did. -/
import Derived.Test.YtdcjbbeoocldeaaM3
import Derived.Test.YtdcjbbeoocldeaaM4
import Derived.Test.YtdcjbbeoocldeaaMk
import Derived.Test.YtdcjbbeoocldeaaMs
import Derived.Test.YtdcjbbeoocldeaaRows
/- Walks: the law CanvasSpares: it answers true. -/
namespace Go.Proofs.Ytdcjbbeoocldeaa
set_option linter.unusedSimpArgs false
set_option linter.unusedVariables false
open Go.RowKit Go.BT

set_option maxRecDepth 100000 in
set_option maxHeartbeats 8000000 in
theorem CanvasSpares_any (l : List Tst) (t : List Head) (wind : List Vec) (v u x : Value) (w : World) (hv : SL (fun _ => False) w v l) (hu : SL (fun _ => False) w u t) (hx : SL (fun _ => False) w x wind) :
    Calls Try.prog 12 #[v, u, x] w fun e w' => e = .returned (.bool true) ∧ Step w w' := by
  have HV := Lib.hid (SL.go hv (Step.refl _))
  have HU := Lib.hid (SL.go hu (Step.refl _))
  have HX := Lib.hid (SL.go hx (Step.refl _))
  have HS := Lib.hid (Step.refl w)
  have HT := Lib.hid (Step.refl w)
  have hmx := hx.len
  obtain ⟨pv, cv, rfl⟩ := hv.form
  obtain ⟨pu, cu, rfl⟩ := hu.form
  obtain ⟨px, cx, rfl⟩ := hx.form
  clear hv hu hx
  go_enter Try.func12, Try.ntmps12
  go_wp2_with fail
  refine (Few_any (fun _ => False) l t _ _ _ (HV.out.keep (.of_step HT.out)) (HU.out.keep (.of_step HT.out))).mono ?_
  rintro e wn ⟨rfl, hSn⟩
  have HTi := Lib.hid (HT.out.trans hSn)
  clear hSn HT
  have HT := HTi
  clear HTi
  cases qf : few l t with
  | false =>
    clear qf
    go_wp2_with fail
    refine (wakes_any _).mono ?_
    rintro e wz ⟨rfl, hSz⟩
    go_wp2
    go_ret
    exact ⟨rfl, HS.out.trans (HT.out.trans hSz)⟩
  | true =>
  have HFEW := Lib.hid (few_of qf)
  clear qf
  by_cases h15 : 15 < (wind.length : Int)
  · have hd : decide (15 < (wind.length : Int)) = true := by simpa using h15
    go_wp2_with fail
    refine (wakes_any _).mono ?_
    rintro e wz ⟨rfl, hSz⟩
    go_wp2
    go_ret
    exact ⟨rfl, HS.out.trans (HT.out.trans hSz)⟩
  have hd : decide (15 < (wind.length : Int)) = false := by simpa using h15
  have HL15 := Lib.hid (show wind.length ≤ 15 by omega)
  clear h15
  go_upto_region 3 with (fail)
  clear hd
  go_wp2_with fail
  refine (Tests_any _ l _ _ (SL.go HV.out HT.out) (by have := HFEW.out.1; omega)).mono ?_
  rintro e wn ⟨v1, rfl, hv1, hSn⟩
  have HTi := Lib.hid (HT.out.trans hSn)
  clear hSn HT
  have HT := HTi
  clear HTi
  have HV1 := Lib.hid (SL.go hv1 (Step.refl _))
  clear hv1
  go_wp2_with fail
  refine (Tent_any _ t _ _ (SL.go HU.out HT.out) HFEW.out.2).mono ?_
  rintro e wm ⟨v2, rfl, hv2, hSn⟩
  have HTm := Lib.hid (HT.out.trans hSn)
  have HV1m := Lib.hid (SL.go HV1.out hSn)
  have HV2 := Lib.hid (SL.go hv2 (Step.refl _))
  clear hSn HT HV1 hv2
  go_wp2_with fail
  refine (Wind_any _ wind _ _ (SL.go HX.out HTm.out) (by have := HL15.out; omega)).mono ?_
  rintro e wn ⟨v3, rfl, hv3, hSn⟩
  have HT := Lib.hid (HTm.out.trans hSn)
  have hv1 := SL.go HV1m.out hSn
  have hv2 := SL.go HV2.out hSn
  clear hSn HTm HV1m HV2
  go_wp2_with fail
  refine (Spares_any l t wind _ _ _ _ hv1 hv2 (SL.go hv3 (Step.refl _)) HFEW.out.2).mono ?_
  rintro e wn ⟨vs, rfl, hsp, hnil, hSn⟩
  obtain ⟨sc, hsc⟩ : ∃ c, c = spareC l t wind := ⟨_, rfl⟩
  rw [← hsc] at hsp hnil ⊢
  have HSC := Lib.hid hsc
  have HSP := Lib.hid hsp
  have HNIL := Lib.hid hnil
  have HTi := Lib.hid (HT.out.trans hSn)
  clear hv1 hv2 hv3 hSn HT hsc hsp hnil
  obtain ⟨wb, hwb⟩ : ∃ W, W = wn := ⟨_, rfl⟩
  subst hwb
  have HV9 := Lib.hid (SL.go HV.out HTi.out)
  have HU9 := Lib.hid (SL.go HU.out HTi.out)
  have HX9 := Lib.hid (SL.go HX.out HTi.out)
  clear HV HU HX HS
  have HV := HV9
  have HU := HU9
  have HX := HX9
  have HS := HTi
  have HT := Lib.hid (Step.refl wb)
  clear HV9 HU9 HX9 HTi
  go_wp2_with fail
  refine (LBlown_any (fun _ => False) l t wind _ _ _ _ (SL.go HV.out HT.out) (SL.go HU.out HT.out) (SL.go HX.out HT.out)).mono ?_
  rintro e wn ⟨rfl, hSn⟩
  have HTi := Lib.hid (HT.out.trans hSn)
  clear hSn HT
  have HT := HTi
  clear HTi
  obtain ⟨c, hc⟩ : ∃ c, c = blownC l t wind := ⟨_, rfl⟩
  rw [← hc]
  by_cases h0 : c = 0
  rotate_left
  · have hd : (c != 0) = true := by simpa using h0
    have hd2 : (c == 0) = false := by simpa using h0
    have hs : sc = c := by rw [HSC.out]; unfold spareC; rw [← hc, if_neg h0]
    subst hs
    obtain rfl := HNIL.out h0
    have hd3 : (sc == sc) = true := by simp
    clear h0 hc
    go_wp2_with fail
    refine (wakes_any _).mono ?_
    rintro e wz ⟨rfl, hSz⟩
    go_wp2
    go_ret
    exact ⟨rfl, HS.out.trans (HT.out.trans hSz)⟩
  subst h0
  obtain ⟨k1, k2, k3, k4⟩ := blown_ok hc.symm
  have HK := Lib.hid (And.intro k1 (And.intro (tent_parts k2) (wind_all k3).1))
  have HC := Lib.hid hc.symm
  clear hc k1 k2 k3 k4
  go_wp2_with fail
  refine (RWeakest_any (fun _ => False) l t wind _ _ _ _ (SL.go HV.out HT.out) (SL.go HU.out HT.out) (SL.go HX.out HT.out) HK.out.1 HK.out.2.1.2 HK.out.2.2).mono ?_
  rintro e wn ⟨rfl, hSn⟩
  have HTi := Lib.hid (HT.out.trans hSn)
  clear hSn HT
  have HT := HTi
  clear HTi
  cases qs : standB l t wind with
  | false =>
    obtain ⟨j, j2, _, _, hwk⟩ := weakP_some (l := l) (t := t) (wind := wind) qs
    have hs : sc = 7 := by rw [HSC.out]; unfold spareC; rw [HC.out, if_pos rfl, qs]; rfl
    rw [hwk]
    have hng : decide ((0 : Int) ≤ (j : Int)) = true := decide_eq_true (by omega)
    subst hs
    obtain rfl := HNIL.out (by decide)
    clear hwk qs
    go_wp2_with fail
    refine (wakes_any _).mono ?_
    rintro e wz ⟨rfl, hSz⟩
    go_wp2
    go_ret
    exact ⟨rfl, HS.out.trans (HT.out.trans hSz)⟩
  | true =>
    have hwk := weakP_iff.2 qs
    have hs : sc = 0 := by rw [HSC.out]; unfold spareC; rw [HC.out, if_pos rfl, qs]; rfl
    rw [hwk]
    subst hs
    have HSL := Lib.hid (HSP.out rfl)
    obtain ⟨ps, cs, rfl⟩ := HSL.out.form
    clear hwk qs
    go_wp2_with fail
    refine (RSpares_any l t wind _ _ _ _ (SL.go HV.out HT.out) (SL.go HU.out HT.out) (SL.go HX.out HT.out) HK.out.1 HK.out.2.1.2 HK.out.2.2 HFEW.out.2).mono ?_
    rintro e wn ⟨v4, rfl, hv4, hSn⟩
    have HTi := Lib.hid (HT.out.trans hSn)
    clear hSn HT
    have HT := HTi
    clear HTi
    go_wp2_with fail
    refine (pairs_any (fun _ => False) (sparesTo l t wind t.length) (sparesTo l t wind t.length) _ _ _ (SL.go HSL.out HT.out) (SL.go hv4 (Step.refl _))).mono ?_
    rintro e wn ⟨rfl, hSn⟩
    have HTi := Lib.hid (HT.out.trans hSn)
    clear hSn HT
    have HT := HTi
    clear HTi
    rw [show pairsB (sparesTo l t wind t.length) (sparesTo l t wind t.length) = true by simp [pairsB]]
    clear hv4
    go_wp2_with fail
    refine (wakes_any _).mono ?_
    rintro e wz ⟨rfl, hSz⟩
    go_wp2
    go_ret
    exact ⟨rfl, HS.out.trans (HT.out.trans hSz)⟩
end Go.Proofs.Ytdcjbbeoocldeaa
/- CanvasSpares: of every input the law answers true, and its arguments read as they did. -/
namespace Go.Proofs.Ytdcjbbeoocldeaa.spares
open Go.ChangeShapes Go.WideShapes Go.ChangeAt Go.RowKit Go.BT
set_option linter.unusedVariables false
set_option linter.unusedSimpArgs false

set_option maxRecDepth 100000 in
theorem lifted (os : Os) (started : os.Started) (H : Type) (enc : TypeId × Value → H) :
    ReturnsInHanded {} Try.checked os 12 .any (Rows.canvasSparesSpec.pre6 enc Try.prog Try.f12 Rows.canvasSparesRow.domain false) (Rows.canvasSparesSpec.post enc Try.prog Try.f12 false true false false) := by
  refine returnsInHanded_of_change (C := Try.checked) own started (by kernel_rfl) Try.func12
    (ChangeSpec.witness6 (enc := enc) (C := Try.checked) false ⟨#[], #[.slice none 0 0, .slice none 0 0, .slice none 0 0], []⟩ 8 (by kernel_rfl) (by kernel_rfl) (by kernel_rfl) (by kernel_rfl)) ?_
  intro W base args ds gs before hval0 hW hcnd _
  have hval : ∀ (j : Nat) t v, Try.f12.params[j]? = some t → args[j]? = some v → Value.okWide Try.prog W .any base t v := hval0
  have hW' := hW
  obtain ⟨p, q, hA0, hV, rfl, hfz, hnd⟩ := hW
  have hA : DataW.TrodAll enc Try.prog W 0 (fun _ => true) true Try.f12.params.toList args.toList ds p := hA0
  have hAk := hA
  rw [Try.params12] at hA hval
  obtain ⟨v0, vs0, d0, ds0, p0, q0, hargs, rfl, rfl, h0, r0⟩ := trodAll_cons hA
  obtain ⟨v1, vs1, d1, ds1, p1, q1, rfl, rfl, rfl, h1, r1⟩ := trodAll_cons r0
  obtain ⟨v2, vs2, d2, ds2, p2, q2, rfl, rfl, rfl, h2, r2⟩ := trodAll_cons r1
  obtain ⟨rfl, rfl, rfl⟩ := trodAll_nil r2
  obtain rfl : args = #[v0, v1, v2] := by cases args; simp_all
  obtain ⟨rfl, rfl⟩ := trodVars_none hV
  obtain ⟨a0, hh0⟩ := sl_of opens_tests Try.underlying22 (hval 0 22 v0 rfl rfl) h0
  obtain ⟨a1, hh1⟩ := sl_of opens_tent Try.underlying24 (hval 1 24 v1 rfl rfl) h1
  obtain ⟨a2, hh2⟩ := sl_of opens_vecs Try.underlying45 (hval 2 45 v2 rfl rfl) h2
  clear hA0 hval0
  refine (CanvasSpares_any a0 a1 a2 v0 v1 v2 W hh0 hh1 hh2).mono fun e W' ⟨he, hg⟩ => ?_
  subst he
  have hlt := hW'.lt
  refine ⟨_, rfl, post_of_below (pv := []) hW' (fun _ _ _ => (trodAll_cons_mk (shut_bool Try.underlying4 _) trodAll_mk0)) (fun sp hs => all_stays laid hg.below (fun t ht => ?_) hAk (fun x hx => hlt x (by simpa using hx)) (fun x hx => hs x (by simpa using hx))) (fun _ _ => rfl) rfl hg.below (ok_one (by kernel_rfl) rfl (okWide_bool_mk Try.underlying4 _))⟩
  rw [Try.params12] at ht
  have : ∀ t ∈ [22, 24, 45], Try.prog.readableRec t = true ∧ t < Try.prog.types.size := by
    intro t ht
    simp only [List.mem_cons, List.not_mem_nil, or_false] at ht
    rcases ht with rfl | rfl | rfl <;> exact ⟨by kernel_rfl, of_decide_eq_true (by kernel_rfl)⟩
  exact this t ht

theorem over : Rows.canvasSparesRow.holds Try.pinned (OpenSpec.ofChange Rows.canvasSparesSpec) :=
  OpenClaim.holds_of_wide 12 Try.f12 rfl rfl rfl rfl rfl rfl rfl ⟨rfl, rfl, rfl, rfl, rfl⟩ rfl rfl rfl rfl rfl (by kernel_rfl) Try.func12 (by kernel_rfl)
    (of_decide_eq_true (by kernel_rfl)) (by unfold Func.isWrapper; first | (rw [if_pos (by decide +kernel)]; kernel_rfl) | (rw [if_neg (by decide +kernel)]; exact ⟨rfl, rfl⟩))
    (fun os started H enc _ => lifted os started H enc)
theorem proved : Rows.CanvasSparesSaid := over
end Go.Proofs.Ytdcjbbeoocldeaa.spares
