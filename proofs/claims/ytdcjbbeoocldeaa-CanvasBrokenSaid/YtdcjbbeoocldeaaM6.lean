/- CanvasBroken holds of every input, and its arguments read afterwards as they did. -/
import Derived.Test.YtdcjbbeoocldeaaM1
import Derived.Test.YtdcjbbeoocldeaaM3
import Derived.Test.YtdcjbbeoocldeaaM4
import Derived.Test.YtdcjbbeoocldeaaMk
import Derived.Test.YtdcjbbeoocldeaaRows
/- Which guy stands at which place of the list of spare guys, in plain words. -/
namespace Go.Proofs.Ytdcjbbeoocldeaa
set_option linter.unusedSimpArgs false
set_option linter.unusedVariables false
open Go.RowKit Go.BT

theorem row_rest (l : List Tst) (t : List Head) (wind : List Vec) (i k : Nat) : ∀ m, k ≤ m → ∃ r, rowTo l t wind i m = rowTo l t wind i k ++ r ∧ ∀ v ∈ r, v.x = (i : Int) ∧ (k : Int) ≤ v.y
  | 0, h => ⟨[], by obtain rfl : k = 0 := by omega
                    simp, by simp⟩
  | m + 1, h => by
    by_cases e : k = m + 1
    · subst e; exact ⟨[], by simp, by simp⟩
    · obtain ⟨r, h1, h2⟩ := row_rest l t wind i k m (by omega)
      refine ⟨r ++ (if spareB l t wind i m then [(⟨(i : Int), (m : Int)⟩ : Vec)] else []), by rw [row_succ, h1, List.append_assoc], fun v hv => ?_⟩
      rcases List.mem_append.1 hv with hv | hv
      · exact h2 v hv
      · by_cases q : spareB l t wind i m = true
        · rw [if_pos q, List.mem_singleton] at hv
          subst hv
          exact ⟨rfl, by show (k : Int) ≤ (m : Int); omega⟩
        · rw [if_neg q] at hv; simp at hv
theorem spares_more (l : List Tst) (t : List Head) (wind : List Vec) (i : Nat) : ∀ n, i ≤ n → ∃ r, sparesTo l t wind n = sparesTo l t wind i ++ r ∧ ∀ v ∈ r, (i : Int) ≤ v.x
  | 0, h => ⟨[], by obtain rfl : i = 0 := by omega
                    simp, by simp⟩
  | n + 1, h => by
    by_cases e : i = n + 1
    · subst e; exact ⟨[], by simp, by simp⟩
    · obtain ⟨r, h1, h2⟩ := spares_more l t wind i n (by omega)
      obtain ⟨r2, h3, h4⟩ := row_rest l t wind n 0 (guysN t n) (Nat.zero_le _)
      rw [row_zero, List.nil_append] at h3
      refine ⟨r ++ rowTo l t wind n (guysN t n), by rw [spares_succ, h1, List.append_assoc], fun v hv => ?_⟩
      rcases List.mem_append.1 hv with hv | hv
      · exact h2 v hv
      · rw [h3] at hv
        have := (h4 v hv).1
        omega
theorem spares_rest (l : List Tst) (t : List Head) (wind : List Vec) {i n k : Nat} (hi : i < n) (hk : k ≤ guysN t i) : ∃ r, sparesTo l t wind n = (sparesTo l t wind i ++ rowTo l t wind i k) ++ r ∧ ∀ v ∈ r, (v.x = (i : Int) ∧ (k : Int) ≤ v.y) ∨ (i : Int) < v.x := by
  obtain ⟨r1, h1, h2⟩ := row_rest l t wind i k (guysN t i) hk
  obtain ⟨r2, h3, h4⟩ := spares_more l t wind (i + 1) n hi
  refine ⟨r1 ++ r2, by rw [h3, spares_succ, h1]; simp only [List.append_assoc], fun v hv => ?_⟩
  rcases List.mem_append.1 hv with hv | hv
  · exact .inl (h2 v hv)
  · have := h4 v hv
    exact .inr (by omega)
/-- The guy is at its place exactly if it is spare. -/
theorem spare_at (l : List Tst) (t : List Head) (wind : List Vec) {i n k : Nat} (hi : i < n) (hk : k < guysN t i) :
    (spareB l t wind i k = true → (sparesTo l t wind n)[(sparesTo l t wind i ++ rowTo l t wind i k).length]? = some ⟨(i : Int), (k : Int)⟩) ∧
    (spareB l t wind i k = false → (sparesTo l t wind n)[(sparesTo l t wind i ++ rowTo l t wind i k).length]? ≠ some ⟨(i : Int), (k : Int)⟩) := by
  obtain ⟨r, h1, h2⟩ := spares_rest l t wind hi (show k + 1 ≤ guysN t i from hk)
  constructor
  · intro hs
    rw [h1, row_succ, hs, if_pos rfl, ← List.append_assoc, List.append_assoc _ _ r, List.getElem?_append_right (Nat.le_refl _), Nat.sub_self]
    rfl
  · intro hs e
    rw [h1, row_succ, hs, if_neg (by decide), List.append_nil, List.getElem?_append_right (Nat.le_refl _), Nat.sub_self] at e
    have hm := List.mem_of_getElem? e
    rcases h2 _ hm with ⟨_, h⟩ | h
    · dsimp only at h; omega
    · dsimp only at h; omega
end Go.Proofs.Ytdcjbbeoocldeaa
/- Walks: the law CanvasBroken: it answers true. -/
namespace Go.Proofs.Ytdcjbbeoocldeaa
set_option linter.unusedSimpArgs false
set_option linter.unusedVariables false
open Go.RowKit Go.BT

attribute [local go_sem] neq_pair eql_pair equalIn_pairs
theorem without_few {t : List Head} (hn : fewT t) {i : Nat} (hi : i < t.length) (k : Nat) : fewT (withoutL t i k) := by
  rw [without_get hi]
  refine ⟨by rw [List.length_set]; exact hn.1, fun j hj => ?_⟩
  have hj' : j < t.length := by simpa using hj
  by_cases r : i = j
  · subst r
    have := hn.2 i hi
    simp only [List.getElem_set_self, lessH, List.length_append, List.length_take, List.length_drop]
    omega
  · rw [List.getElem_set_ne r]; exact hn.2 j hj'
theorem tent_heads {t : List Head} (h : tentB t = true) : t.all headB = true := by
  unfold tentB at h; simp only [Bool.and_eq_true] at h; exact h.2
theorem without_stands {l : List Tst} {t : List Head} {wind : List Vec} (h : blownC l t wind = 0) (ht : t.all headB = true) {i : Nat} (hi : i < t.length) (k : Nat) : standsL l (withoutL t i k) wind = spareB l t wind i k := by
  unfold standsL spareB
  have : blownC l (withoutL t i k) wind = 0 := by rw [without_get hi]; exact blown_set h (less_head (all_get ht hi) k)
  rw [this]; simp
set_option maxRecDepth 100000 in
set_option maxHeartbeats 8000000 in
theorem CanvasBroken_any (l : List Tst) (t : List Head) (wind : List Vec) (v u x : Value) (w : World) (hv : SL (fun _ => False) w v l) (hu : SL (fun _ => False) w u t) (hx : SL (fun _ => False) w x wind) :
    Calls Try.prog 13 #[v, u, x] w fun e w' => e = .returned (.bool true) ∧ Step w w' := by
  have HV := Lib.hid (SL.go hv (Step.refl _))
  have HU := Lib.hid (SL.go hu (Step.refl _))
  have HX := Lib.hid (SL.go hx (Step.refl _))
  have HS := Lib.hid (Step.refl w)
  have HT := Lib.hid (Step.refl w)
  have hmx := hx.len
  obtain ⟨pv, cv, rfl⟩ := hv.form
  obtain ⟨pu, cu, rfl⟩ := hu.form
  obtain ⟨px, cx, rfl⟩ := hx.form
  clear hv hu hx
  go_enter Try.func13, Try.ntmps13
  go_wp2_with fail
  refine (Few_any (fun _ => False) l t _ _ _ (HV.out.keep (.of_step HT.out)) (HU.out.keep (.of_step HT.out))).mono ?_
  rintro e wn ⟨rfl, hSn⟩
  have HTi := Lib.hid (HT.out.trans hSn)
  clear hSn HT
  have HT := HTi
  clear HTi
  cases qf : few l t with
  | false =>
    clear qf
    go_wp2_with fail
    refine (wakes_any _).mono ?_
    rintro e wz ⟨rfl, hSz⟩
    go_wp2
    go_ret
    exact ⟨rfl, HS.out.trans (HT.out.trans hSz)⟩
  | true =>
  have HFEW := Lib.hid (few_of qf)
  clear qf
  by_cases h12 : 12 < (wind.length : Int)
  · have hd : decide (12 < (wind.length : Int)) = true := by simpa using h12
    go_wp2_with fail
    refine (wakes_any _).mono ?_
    rintro e wz ⟨rfl, hSz⟩
    go_wp2
    go_ret
    exact ⟨rfl, HS.out.trans (HT.out.trans hSz)⟩
  have hd : decide (12 < (wind.length : Int)) = false := by simpa using h12
  have HL12 := Lib.hid (show wind.length ≤ 12 by omega)
  clear h12
  go_wp2_with fail
  refine (LBlown_any (fun _ => False) l t wind _ _ _ _ (SL.go HV.out HT.out) (SL.go HU.out HT.out) (SL.go HX.out HT.out)).mono ?_
  rintro e wn ⟨rfl, hSn⟩
  have HTi := Lib.hid (HT.out.trans hSn)
  clear hSn HT
  have HT := HTi
  clear HTi
  clear hd
  obtain ⟨c, hc⟩ : ∃ c, c = blownC l t wind := ⟨_, rfl⟩
  rw [← hc]
  by_cases h0 : c = 0
  rotate_left
  · have hd : (c != 0) = true := by simpa using h0
    clear h0 hc
    go_wp2_with fail
    refine (wakes_any _).mono ?_
    rintro e wz ⟨rfl, hSz⟩
    go_wp2
    go_ret
    exact ⟨rfl, HS.out.trans (HT.out.trans hSz)⟩
  subst h0
  have HC := Lib.hid hc.symm
  have HKW := Lib.hid (blown_ok hc.symm)
  clear hc
  go_wp2_with fail
  refine (Tests_any _ l _ _ (SL.go HV.out HT.out) (by have := HFEW.out.1; omega)).mono ?_
  rintro e wn ⟨v1, rfl, hv1, hSn⟩
  have HTi := Lib.hid (HT.out.trans hSn)
  clear hSn HT
  have HT := HTi
  clear HTi
  have HV1 := Lib.hid (SL.go hv1 (Step.refl _))
  clear hv1
  go_wp2_with fail
  refine (Tent_any _ t _ _ (SL.go HU.out HT.out) HFEW.out.2).mono ?_
  rintro e wm ⟨v2, rfl, hv2, hSn⟩
  have HTm := Lib.hid (HT.out.trans hSn)
  have HV1m := Lib.hid (SL.go HV1.out hSn)
  have HV2 := Lib.hid (SL.go hv2 (Step.refl _))
  clear hSn HT HV1 hv2
  go_wp2_with fail
  refine (Wind_any _ wind _ _ (SL.go HX.out HTm.out) (by have := HL12.out; omega)).mono ?_
  rintro e wn ⟨v3, rfl, hv3, hSn⟩
  have HT := Lib.hid (HTm.out.trans hSn)
  have hv1 := SL.go HV1m.out hSn
  have hv2 := SL.go HV2.out hSn
  clear hSn HTm HV1m HV2
  go_wp2_with fail
  refine (Spares_any l t wind _ _ _ _ hv1 hv2 (SL.go hv3 (Step.refl _)) HFEW.out.2).mono ?_
  rintro e wn ⟨vs, rfl, hsp, hnil, hSn⟩
  obtain ⟨sc, hsc⟩ : ∃ c, c = spareC l t wind := ⟨_, rfl⟩
  rw [← hsc] at hsp hnil ⊢
  have HSC := Lib.hid hsc
  have HSP := Lib.hid hsp
  have HTi := Lib.hid (HT.out.trans hSn)
  clear hv1 hv2 hv3 hSn HT hsc hsp hnil
  obtain ⟨wb, hwb⟩ : ∃ W, W = wn := ⟨_, rfl⟩
  subst hwb
  have HV9 := Lib.hid (SL.go HV.out HTi.out)
  have HU9 := Lib.hid (SL.go HU.out HTi.out)
  have HX9 := Lib.hid (SL.go HX.out HTi.out)
  clear HV HU HX HS
  have HV := HV9
  have HU := HU9
  have HX := HX9
  have HS := HTi
  have HT := Lib.hid (Step.refl wb)
  clear HV9 HU9 HX9 HTi
  go_wp2_with fail
  refine (Tests_any _ l _ _ (SL.go HV.out HT.out) (by have := HFEW.out.1; omega)).mono ?_
  rintro e wn ⟨v1, rfl, hv1, hSn⟩
  have HTi := Lib.hid (HT.out.trans hSn)
  clear hSn HT
  have HT := HTi
  clear HTi
  have HV1 := Lib.hid (SL.go hv1 (Step.refl _))
  clear hv1
  go_wp2_with fail
  refine (Tent_any _ t _ _ (SL.go HU.out HT.out) HFEW.out.2).mono ?_
  rintro e wm ⟨v2, rfl, hv2, hSn⟩
  have HTm := Lib.hid (HT.out.trans hSn)
  have HV1m := Lib.hid (SL.go HV1.out hSn)
  have HV2 := Lib.hid (SL.go hv2 (Step.refl _))
  clear hSn HT HV1 hv2
  go_wp2_with fail
  refine (Wind_any _ wind _ _ (SL.go HX.out HTm.out) (by have := HL12.out; omega)).mono ?_
  rintro e wn ⟨v3, rfl, hv3, hSn⟩
  have HT := Lib.hid (HTm.out.trans hSn)
  have hv1 := SL.go HV1m.out hSn
  have hv2 := SL.go HV2.out hSn
  clear hSn HTm HV1m HV2
  go_wp2_with fail
  refine (stands_any (fun _ => False) l t wind _ _ _ _ hv1 hv2 (SL.go hv3 (Step.refl _))).mono ?_
  rintro e wz ⟨rfl, hSn⟩
  have HTi := Lib.hid (HT.out.trans hSn)
  clear hSn HT hv1 hv2 hv3
  have HT := HTi
  clear HTi
  have hst : standsL l t wind = standB l t wind := by unfold standsL; rw [HC.out]; simp
  rw [hst]
  clear hst
  cases qs : standB l t wind with
  | false =>
    have hs : sc = 7 := by rw [HSC.out]; unfold spareC; rw [HC.out, if_pos rfl, qs]; rfl
    subst hs
    clear qs
    go_wp2_with fail
    refine (wakes_any _).mono ?_
    rintro e wz ⟨rfl, hSz⟩
    go_wp2
    go_ret
    exact ⟨rfl, HS.out.trans (HT.out.trans hSz)⟩
  | true =>
    have hs : sc = 0 := by rw [HSC.out]; unfold spareC; rw [HC.out, if_pos rfl, qs]; rfl
    subst hs
    have HSL := Lib.hid (HSP.out rfl)
    obtain ⟨F, hF⟩ : ∃ F, F = sparesTo l t wind t.length := ⟨_, rfl⟩
    rw [← hF] at HSL
    have HF := Lib.hid hF
    clear qs hF HSP
    obtain ⟨ps, cs, bs, os, rfl, _, hms, hps, hcs, _⟩ := HSL.out.vecs
    have HPS := Lib.hid (And.intro hps hcs)
    clear hps hcs
    go_upto_region 10 with (fail)
    go_loopw [9, 10] (fun at_ i wr => ∃ k : Nat, k ≤ t.length ∧ i = .int .i64 k ∧ at_ = .int .i64 ((sparesTo l t wind k).length : Nat) ∧ Step wb wr) (fun _ i _ => t.length - (intOf i).toNat)
    case atStart => exact ⟨0, Nat.zero_le _, rfl, rfl, HT.out⟩
    case round =>
      obtain ⟨i, hi, rfl, rfl, hB⟩ := hrel
      have HT := Lib.hid hB
      by_cases hlt : i < t.length
      · clear hB
        go_wp2
        go_loopw [9, 11] (fun at_ j wr => ∃ k : Nat, k ≤ t[i].guys.length ∧ j = .int .i64 k ∧ at_ = .int .i64 ((sparesTo l t wind i ++ rowTo l t wind i k).length : Nat) ∧ Step wb wr) (fun _ j _ => t[i].guys.length - (intOf j).toNat)
        case atStart => exact ⟨0, Nat.zero_le _, rfl, by rw [row_zero, List.append_nil], HT.out⟩
        case round =>
          obtain ⟨k, hk, rfl, rfl, hB⟩ := hrel
          have HT2 := Lib.hid hB
          clear hB
          obtain ⟨pu', cu', bu, ou, heu, _, _, hpu, hcu, _⟩ := HU.out.heads
          injection heu with heu1 _ heu3
          subst heu1 heu3
          obtain rfl := hpu (by omega)
          obtain ⟨c2, _, _, e3, e4⟩ := hcu i hlt
          obtain ⟨pg, cg, rfl⟩ := e4.form
          have e3 := HT2.out.keeps.cell id e3
          have hix : (0 : Int) ≤ (i : Int) ∧ (i : Int) < (t.length : Int) := by omega
          clear e4 hpu hcu
          by_cases hltk : k < t[i].guys.length
          · go_upto_region 15 with (fail)
            obtain ⟨sA, sB⟩ := spare_at l t wind hlt (k := k) (by rw [guysN_at hlt]; exact hltk)
            rw [← HF.out] at sA sB
            obtain ⟨pn, hpn⟩ : ∃ n, n = (sparesTo l t wind i ++ rowTo l t wind i k).length := ⟨_, rfl⟩
            rw [← hpn] at sA sB ⊢
            have hRS := row_succ l t wind i k
            have hpb : pn ≤ 160 := by
              have h1 := spares_len l t wind HFEW.out.2 i (by omega)
              have h2 := row_len l t wind i k
              have h3 := HFEW.out.2.2 i hlt
              have h4 := HFEW.out.2.1
              rw [hpn, List.length_append]; omega
            have hg10 := HFEW.out.2.2 i hlt
            have HWK := Lib.hid (show wrap64 ((k : Int) + 1) = (k : Int) + 1 by unfold wrap64; omega)
            have HWP := Lib.hid (show wrap64 ((pn : Int) + 1) = (pn : Int) + 1 by unfold wrap64; omega)
            have HPN := Lib.hid hpn
            clear hpn
            cases qs : spareB l t wind i k with
            | true =>
              have he := sA qs
              obtain ⟨hpl, hpe⟩ := List.getElem?_eq_some_iff.1 he
              obtain rfl := HPS.out.1 (Nat.lt_of_le_of_lt (Nat.zero_le _) hpl)
              obtain ⟨x1, x2⟩ := HPS.out.2 pn hpl
              rw [hpe] at x1 x2
              dsimp only at x1 x2
              have x1 := HT2.out.keeps.cell id x1
              have x2 := HT2.out.keeps.cell id x2
              have hjx : (0 : Int) ≤ (pn : Int) ∧ (pn : Int) < (F.length : Int) := ⟨Int.natCast_nonneg _, Int.ofNat_lt.2 hpl⟩
              have hvq := veq_self (i : Int) (k : Int)
              have HR := Lib.hid (show (sparesTo l t wind i ++ rowTo l t wind i (k + 1)).length = pn + 1 by rw [hRS, qs, if_pos rfl, HPN.out]; simp [Nat.add_assoc])
              have HQ := Lib.hid qs
              clear he hpe sA sB hRS qs
              clear HSL HF HSC e3
              have hwp1 := HWP.out
              go_upto_region 18 with (fail)
              clear hwp1
              clear x1 x2 hvq hjx
              go_wp2_with fail
              refine (Tests_any _ l _ _ (SL.go HV.out HT2.out) (by have := HFEW.out.1; omega)).mono ?_
              rintro e w3 ⟨v1, rfl, hv1, hS3⟩
              have HT3 := Lib.hid (HT2.out.trans hS3)
              have HV1 := Lib.hid (SL.go hv1 (Step.refl _))
              clear hv1 hS3 HT2
              go_wp2_with fail
              refine (Without_any t i k _ _ (SL.go HU.out HT3.out) hlt hltk HFEW.out.2).mono ?_
              rintro e w4 ⟨v2, rfl, hv2, hS4⟩
              have HT4 := Lib.hid (HT3.out.trans hS4)
              have HV4 := Lib.hid (SL.go HV1.out hS4)
              have HW4 := Lib.hid (SL.go hv2 (Step.refl _))
              clear hv2 hS4 HT3 HV1
              go_wp2_with fail
              refine (Tent_any _ (withoutL t i k) _ _ HW4.out (without_few HFEW.out.2 hlt k)).mono ?_
              rintro e w5 ⟨v3, rfl, hv3, hS5⟩
              have HT5 := Lib.hid (HT4.out.trans hS5)
              have HV5 := Lib.hid (SL.go HV4.out hS5)
              have HW5 := Lib.hid (SL.go hv3 (Step.refl _))
              clear hv3 hS5 HT4 HV4 HW4
              go_wp2_with fail
              refine (Wind_any _ wind _ _ (SL.go HX.out HT5.out) (by have := HL12.out; omega)).mono ?_
              rintro e w6 ⟨v4, rfl, hv4, hS6⟩
              have HT6 := Lib.hid (HT5.out.trans hS6)
              have HV6 := Lib.hid (SL.go HV5.out hS6)
              have HW6 := Lib.hid (SL.go HW5.out hS6)
              have HX6 := Lib.hid (SL.go hv4 (Step.refl _))
              clear hv4 hS6 HT5 HV5 HW5
              go_wp2_with fail
              refine (stands_any (fun _ => False) l (withoutL t i k) wind _ _ _ _ HV6.out HW6.out HX6.out).mono ?_
              rintro e w7 ⟨rfl, hS7⟩
              have HT7 := Lib.hid (HT6.out.trans hS7)
              clear hS7 HT6 HV6 HW6 HX6
              rw [without_stands HC.out (tent_heads HKW.out.2.1) hlt k, HQ.out]
              have hwk1 := HWK.out
              go_wp2
              clear hwk1
              go_roundw
              case rel => exact ⟨k + 1, by omega, by go_num, by (rw [HR.out] <;> go_num), HT7.out⟩
              case measure => simp [intOf]; omega
            | false =>
              have HR := Lib.hid (show (sparesTo l t wind i ++ rowTo l t wind i (k + 1)).length = pn by rw [hRS, qs, if_neg (by decide), List.append_nil, HPN.out])
              have HQ := Lib.hid qs
              by_cases hpl : pn < F.length
              · obtain rfl := HPS.out.1 (Nat.lt_of_le_of_lt (Nat.zero_le _) hpl)
                obtain ⟨x1, x2⟩ := HPS.out.2 pn hpl
                have hvq : veq F[pn].x F[pn].y (i : Int) (k : Int) = false := by
                  cases hq : veq F[pn].x F[pn].y (i : Int) (k : Int) with
                  | false => rfl
                  | true =>
                    obtain ⟨ea, eb⟩ := veq_iff.1 hq
                    exact absurd (by rw [List.getElem?_eq_getElem hpl, ← ea, ← eb]) (sB qs)
                obtain ⟨xa, hxa⟩ : ∃ x, x = F[pn].x := ⟨_, rfl⟩
                obtain ⟨xb, hxb⟩ : ∃ x, x = F[pn].y := ⟨_, rfl⟩
                rw [← hxa, ← hxb] at hvq
                rw [← hxa] at x1
                rw [← hxb] at x2
                have x1 := HT2.out.keeps.cell id x1
                have x2 := HT2.out.keeps.cell id x2
                have hjx : (0 : Int) ≤ (pn : Int) ∧ (pn : Int) < (F.length : Int) := ⟨Int.natCast_nonneg _, Int.ofNat_lt.2 hpl⟩
                clear sA sB hRS qs hxa hxb
                clear HSL HF HSC e3
                have hwp1 := HWP.out
                go_upto_region 18 with (fail)
                clear hwp1
                clear x1 x2 hvq hjx
                go_wp2_with fail
                refine (Tests_any _ l _ _ (SL.go HV.out HT2.out) (by have := HFEW.out.1; omega)).mono ?_
                rintro e w3 ⟨v1, rfl, hv1, hS3⟩
                have HT3 := Lib.hid (HT2.out.trans hS3)
                have HV1 := Lib.hid (SL.go hv1 (Step.refl _))
                clear hv1 hS3 HT2
                go_wp2_with fail
                refine (Without_any t i k _ _ (SL.go HU.out HT3.out) hlt hltk HFEW.out.2).mono ?_
                rintro e w4 ⟨v2, rfl, hv2, hS4⟩
                have HT4 := Lib.hid (HT3.out.trans hS4)
                have HV4 := Lib.hid (SL.go HV1.out hS4)
                have HW4 := Lib.hid (SL.go hv2 (Step.refl _))
                clear hv2 hS4 HT3 HV1
                go_wp2_with fail
                refine (Tent_any _ (withoutL t i k) _ _ HW4.out (without_few HFEW.out.2 hlt k)).mono ?_
                rintro e w5 ⟨v3, rfl, hv3, hS5⟩
                have HT5 := Lib.hid (HT4.out.trans hS5)
                have HV5 := Lib.hid (SL.go HV4.out hS5)
                have HW5 := Lib.hid (SL.go hv3 (Step.refl _))
                clear hv3 hS5 HT4 HV4 HW4
                go_wp2_with fail
                refine (Wind_any _ wind _ _ (SL.go HX.out HT5.out) (by have := HL12.out; omega)).mono ?_
                rintro e w6 ⟨v4, rfl, hv4, hS6⟩
                have HT6 := Lib.hid (HT5.out.trans hS6)
                have HV6 := Lib.hid (SL.go HV5.out hS6)
                have HW6 := Lib.hid (SL.go HW5.out hS6)
                have HX6 := Lib.hid (SL.go hv4 (Step.refl _))
                clear hv4 hS6 HT5 HV5 HW5
                go_wp2_with fail
                refine (stands_any (fun _ => False) l (withoutL t i k) wind _ _ _ _ HV6.out HW6.out HX6.out).mono ?_
                rintro e w7 ⟨rfl, hS7⟩
                have HT7 := Lib.hid (HT6.out.trans hS7)
                clear hS7 HT6 HV6 HW6 HX6
                rw [without_stands HC.out (tent_heads HKW.out.2.1) hlt k, HQ.out]
                have hwk1 := HWK.out
                go_wp2
                clear hwk1
                go_roundw
                case rel => exact ⟨k + 1, by omega, by go_num, by (rw [HR.out] <;> go_num), HT7.out⟩
                case measure => simp [intOf]; omega
              · clear sA sB hRS qs
                clear HSL HF HSC e3
                have hpl' : decide ((pn : Int) < (F.length : Int)) = false := by simpa using hpl
                have hwp1 := HWP.out
                go_upto_region 18 with (fail)
                clear hwp1
                go_wp2_with fail
                refine (Tests_any _ l _ _ (SL.go HV.out HT2.out) (by have := HFEW.out.1; omega)).mono ?_
                rintro e w3 ⟨v1, rfl, hv1, hS3⟩
                have HT3 := Lib.hid (HT2.out.trans hS3)
                have HV1 := Lib.hid (SL.go hv1 (Step.refl _))
                clear hv1 hS3 HT2
                go_wp2_with fail
                refine (Without_any t i k _ _ (SL.go HU.out HT3.out) hlt hltk HFEW.out.2).mono ?_
                rintro e w4 ⟨v2, rfl, hv2, hS4⟩
                have HT4 := Lib.hid (HT3.out.trans hS4)
                have HV4 := Lib.hid (SL.go HV1.out hS4)
                have HW4 := Lib.hid (SL.go hv2 (Step.refl _))
                clear hv2 hS4 HT3 HV1
                go_wp2_with fail
                refine (Tent_any _ (withoutL t i k) _ _ HW4.out (without_few HFEW.out.2 hlt k)).mono ?_
                rintro e w5 ⟨v3, rfl, hv3, hS5⟩
                have HT5 := Lib.hid (HT4.out.trans hS5)
                have HV5 := Lib.hid (SL.go HV4.out hS5)
                have HW5 := Lib.hid (SL.go hv3 (Step.refl _))
                clear hv3 hS5 HT4 HV4 HW4
                go_wp2_with fail
                refine (Wind_any _ wind _ _ (SL.go HX.out HT5.out) (by have := HL12.out; omega)).mono ?_
                rintro e w6 ⟨v4, rfl, hv4, hS6⟩
                have HT6 := Lib.hid (HT5.out.trans hS6)
                have HV6 := Lib.hid (SL.go HV5.out hS6)
                have HW6 := Lib.hid (SL.go HW5.out hS6)
                have HX6 := Lib.hid (SL.go hv4 (Step.refl _))
                clear hv4 hS6 HT5 HV5 HW5
                go_wp2_with fail
                refine (stands_any (fun _ => False) l (withoutL t i k) wind _ _ _ _ HV6.out HW6.out HX6.out).mono ?_
                rintro e w7 ⟨rfl, hS7⟩
                have HT7 := Lib.hid (HT6.out.trans hS7)
                clear hS7 HT6 HV6 HW6 HX6
                rw [without_stands HC.out (tent_heads HKW.out.2.1) hlt k, HQ.out]
                have hwk1 := HWK.out
                go_wp2
                clear hwk1
                go_roundw
                case rel => exact ⟨k + 1, by omega, by go_num, by (rw [HR.out] <;> go_num), HT7.out⟩
                case measure => simp [intOf]; omega
          · have HR := Lib.hid (show sparesTo l t wind (i + 1) = sparesTo l t wind i ++ rowTo l t wind i k by rw [spares_succ, guysN_at hlt, show k = t[i].guys.length by omega])
            go_wp2
            go_roundw
            case rel => exact ⟨i + 1, by omega, by go_num, by rw [HR.out], HT2.out⟩
            case measure => simp [intOf]; omega
      · have he : i = t.length := by omega
        subst he
        clear hB
        have HFL := Lib.hid (show (sparesTo l t wind t.length).length = F.length by rw [HF.out])
        rw [HFL.out]
        have hff : ((F.length : Int) == (F.length : Int)) = true := by simp
        clear HSL HF HSC
        go_wp2_with fail
        refine (wakes_any _).mono ?_
        rintro e wz ⟨rfl, hSz⟩
        go_wp2
        go_ret
        exact ⟨rfl, HS.out.trans (HT.out.trans hSz)⟩
end Go.Proofs.Ytdcjbbeoocldeaa
/- CanvasBroken: of every input the law answers true, and its arguments read as they did. -/
namespace Go.Proofs.Ytdcjbbeoocldeaa.broken
open Go.ChangeShapes Go.WideShapes Go.ChangeAt Go.RowKit Go.BT
set_option linter.unusedVariables false
set_option linter.unusedSimpArgs false

set_option maxRecDepth 100000 in
theorem lifted (os : Os) (started : os.Started) (H : Type) (enc : TypeId × Value → H) :
    ReturnsInHanded {} Try.checked os 13 .any (Rows.canvasBrokenSpec.pre6 enc Try.prog Try.f13 Rows.canvasBrokenRow.domain false) (Rows.canvasBrokenSpec.post enc Try.prog Try.f13 false true false false) := by
  refine returnsInHanded_of_change (C := Try.checked) own started (by kernel_rfl) Try.func13
    (ChangeSpec.witness6 (enc := enc) (C := Try.checked) false ⟨#[], #[.slice none 0 0, .slice none 0 0, .slice none 0 0], []⟩ 8 (by kernel_rfl) (by kernel_rfl) (by kernel_rfl) (by kernel_rfl)) ?_
  intro W base args ds gs before hval0 hW hcnd _
  have hval : ∀ (j : Nat) t v, Try.f13.params[j]? = some t → args[j]? = some v → Value.okWide Try.prog W .any base t v := hval0
  have hW' := hW
  obtain ⟨p, q, hA0, hV, rfl, hfz, hnd⟩ := hW
  have hA : DataW.TrodAll enc Try.prog W 0 (fun _ => true) true Try.f13.params.toList args.toList ds p := hA0
  have hAk := hA
  rw [Try.params13] at hA hval
  obtain ⟨v0, vs0, d0, ds0, p0, q0, hargs, rfl, rfl, h0, r0⟩ := trodAll_cons hA
  obtain ⟨v1, vs1, d1, ds1, p1, q1, rfl, rfl, rfl, h1, r1⟩ := trodAll_cons r0
  obtain ⟨v2, vs2, d2, ds2, p2, q2, rfl, rfl, rfl, h2, r2⟩ := trodAll_cons r1
  obtain ⟨rfl, rfl, rfl⟩ := trodAll_nil r2
  obtain rfl : args = #[v0, v1, v2] := by cases args; simp_all
  obtain ⟨rfl, rfl⟩ := trodVars_none hV
  obtain ⟨a0, hh0⟩ := sl_of opens_tests Try.underlying22 (hval 0 22 v0 rfl rfl) h0
  obtain ⟨a1, hh1⟩ := sl_of opens_tent Try.underlying24 (hval 1 24 v1 rfl rfl) h1
  obtain ⟨a2, hh2⟩ := sl_of opens_vecs Try.underlying45 (hval 2 45 v2 rfl rfl) h2
  clear hA0 hval0
  refine (CanvasBroken_any a0 a1 a2 v0 v1 v2 W hh0 hh1 hh2).mono fun e W' ⟨he, hg⟩ => ?_
  subst he
  have hlt := hW'.lt
  refine ⟨_, rfl, post_of_below (pv := []) hW' (fun _ _ _ => (trodAll_cons_mk (shut_bool Try.underlying4 _) trodAll_mk0)) (fun sp hs => all_stays laid hg.below (fun t ht => ?_) hAk (fun x hx => hlt x (by simpa using hx)) (fun x hx => hs x (by simpa using hx))) (fun _ _ => rfl) rfl hg.below (ok_one (by kernel_rfl) rfl (okWide_bool_mk Try.underlying4 _))⟩
  rw [Try.params13] at ht
  have : ∀ t ∈ [22, 24, 45], Try.prog.readableRec t = true ∧ t < Try.prog.types.size := by
    intro t ht
    simp only [List.mem_cons, List.not_mem_nil, or_false] at ht
    rcases ht with rfl | rfl | rfl <;> exact ⟨by kernel_rfl, of_decide_eq_true (by kernel_rfl)⟩
  exact this t ht

theorem over : Rows.canvasBrokenRow.holds Try.pinned (OpenSpec.ofChange Rows.canvasBrokenSpec) :=
  OpenClaim.holds_of_wide 13 Try.f13 rfl rfl rfl rfl rfl rfl rfl ⟨rfl, rfl, rfl, rfl, rfl⟩ rfl rfl rfl rfl rfl (by kernel_rfl) Try.func13 (by kernel_rfl)
    (of_decide_eq_true (by kernel_rfl)) (by unfold Func.isWrapper; first | (rw [if_pos (by decide +kernel)]; kernel_rfl) | (rw [if_neg (by decide +kernel)]; exact ⟨rfl, rfl⟩))
    (fun os started H enc _ => lifted os started H enc)
theorem proved : Rows.CanvasBrokenSaid := over
end Go.Proofs.Ytdcjbbeoocldeaa.broken
