/- The law CanvasMeans is walked: it answers true. -/
import Derived.Test.YtdcjbbeoocldeaaMs
import Derived.Test.YtdcjbbeoocldeaaRows
/- Walks: the law CanvasMeans: it answers true. -/
namespace Go.Proofs.Ytdcjbbeoocldeaa
set_option linter.unusedSimpArgs false
set_option linter.unusedVariables false
open Go.RowKit Go.BT

theorem tdiv2 {x N : Int} (h : -(2 * N) ≤ x ∧ x ≤ 2 * N) : -N ≤ x.tdiv 2 ∧ x.tdiv 2 ≤ N := by
  rcases Int.le_total 0 x with q | q
  · rw [Int.tdiv_eq_ediv_of_nonneg q]; omega
  · obtain ⟨y, rfl⟩ : ∃ y, x = -y := ⟨-x, by omega⟩
    rw [Int.neg_tdiv, Int.tdiv_eq_ediv_of_nonneg (by omega)]; omega
theorem tdiv2_even (a b : Int) : (a.tdiv 2 * 2 + b.tdiv 2 * 2).tdiv 2 = a.tdiv 2 + b.tdiv 2 := by
  rw [← Int.add_mul, Int.mul_tdiv_cancel _ (by decide)]
def evenV (v : Vec) : Vec := ⟨v.x.tdiv 2 * 2, v.y.tdiv 2 * 2⟩
def evenL (l : List Vec) : List Vec := l.map evenV
theorem evenV_in {v : Vec} (h : inV 10000 v) : inV 10000 (evenV v) := by
  have h1 := tdiv2 (N := 5000) h.1
  have h2 := tdiv2 (N := 5000) h.2
  unfold inV evenV
  dsimp only
  omega
theorem in_corner {v : Vec} (h : inV 10000 v) : cornerB v = true := by
  unfold inV at h
  simp only [cornerB, withinB, Bool.and_eq_true, decide_eq_true_eq]
  exact h
theorem windB_of {wind : List Vec} (h1 : 1 ≤ wind.length) (h2 : wind.length ≤ 12) (h : ∀ v ∈ wind, inV 10000 v) : windB wind = true := by
  unfold windB
  rw [Bool.and_eq_true]
  refine ⟨within_iff.2 ⟨by omega, by omega⟩, ?_⟩
  rw [List.all_eq_true]
  exact fun v hv => in_corner (h v hv)
theorem wind_in {wind : List Vec} (h : windB wind = true) : ∀ v ∈ wind, inV 10000 v := fun v hv => corner_in (List.all_eq_true.1 (wind_all h).1 v hv)
theorem even_in {wind : List Vec} (h : windB wind = true) : ∀ v ∈ evenL wind, inV 10000 v := fun v hv => by
  obtain ⟨u, hu, rfl⟩ := List.mem_map.1 hv
  exact evenV_in (wind_in h u hu)
theorem even_len (wind : List Vec) : (evenL wind).length = wind.length := by simp [evenL]
theorem blown_other {l : List Tst} {t : List Head} {wind w2 : List Vec} (h : blownC l t wind = 0) (h2 : windB w2 = true) : blownC l t w2 = 0 := by
  obtain ⟨_, _, h3, h4⟩ := blown_ok h
  have hs : soundC l = 0 := by
    unfold blownC at h
    rw [if_pos h4, if_pos h3] at h
    exact h
  unfold blownC
  rw [if_pos h4, if_pos h2, hs]
/-- The mean of two. -/
def meanV (a b : Vec) : Vec := ⟨(a.x + b.x).tdiv 2, (a.y + b.y).tdiv 2⟩
theorem stand_mean {l : List Tst} {t : List Head} {wind : List Vec} {a b : Vec} (h : standB l t (evenL wind) = true) (ha : a ∈ evenL wind) (hb : b ∈ evenL wind) : standB l t [meanV a b] = true := by
  unfold standB at *
  rw [List.all_eq_true] at *
  intro hd hh
  have := h hd hh
  unfold standH at *
  rw [List.all_eq_true] at *
  intro c hc
  obtain rfl : c = meanV a b := by simpa using hc
  obtain ⟨u, _, rfl⟩ := List.mem_map.1 ha
  obtain ⟨v, _, rfl⟩ := List.mem_map.1 hb
  refine bal_mean (this _ ha) (this _ hb) ?_ ?_ <;> (unfold meanV evenV; dsimp only; rw [tdiv2_even]; omega)
theorem stand_take {l : List Tst} {t : List Head} {wind : List Vec} (h : standB l t wind = true) (n : Nat) : standB l t (wind.take n) = true := by
  unfold standB at *
  rw [List.all_eq_true] at *
  intro hd hh
  have := h hd hh
  unfold standH at *
  rw [List.all_eq_true] at *
  exact fun c hc => this c (List.mem_of_mem_take hc)
theorem mean_in {a b : Vec} (ha : inV 10000 a) (hb : inV 10000 b) : inV 10000 (meanV a b) := by
  unfold inV at *
  exact ⟨tdiv2 (by omega), tdiv2 (by omega)⟩
theorem _root_.Go.BT.SL.take {α : Type} [Rep α] {S : Nat → Prop} {w : World} {p : Option Addr} {n c : Nat} {l : List α} (h : SL S w (.slice p n c) l) {k : Nat} (hk : k ≤ n) : SL S w (.slice p k c) (l.take k) := by
  obtain ⟨p', c', b, o, hv, hc, hm, hp, ha⟩ := h
  injection hv with e1 e2 e3
  subst e1 e3
  have hl : (l.take k).length = k := by rw [List.length_take]; omega
  refine ⟨p, c, b, o, by rw [hl], by omega, by omega, fun h0 => hp (by omega), fun i hi => ?_⟩
  rw [List.getElem_take]
  exact ha i (by omega)
/-- A remainder by the length of a list, as an index. -/
theorem rem_index {a : Int} {n : Nat} (ha : 0 ≤ a) (hn : 0 < n) : ∃ k : Nat, a.tmod (n : Int) = (k : Int) ∧ k < n := by
  have h1 := Int.tmod_nonneg (n : Int) ha
  have h2 := Int.tmod_lt_of_pos a (show (0 : Int) < n by omega)
  exact ⟨(a.tmod (n : Int)).toNat, by omega, by omega⟩
theorem u8_of {n : Int} (h : (Lit.int .u8 n).wf = true) : 0 ≤ n ∧ n ≤ 255 := by
  have h1 : IntKind.u8.min = 0 := rfl
  have h2 : IntKind.u8.max = 255 := rfl
  simp [Lit.wf] at h; omega
set_option maxRecDepth 100000 in
set_option maxHeartbeats 8000000 in
theorem CanvasMeans_any (l : List Tst) (t : List Head) (wind : List Vec) (i0 k0 : Int) (v u x : Value) (w : World) (hv : SL (fun _ => False) w v l) (hu : SL (fun _ => False) w u t) (hx : SL (fun _ => False) w x wind) (hi : (Lit.int .u8 i0).wf = true) (hk : (Lit.int .u8 k0).wf = true) :
    Calls Try.prog 8 #[v, u, x, .int .u8 i0, .int .u8 k0] w fun e w' => e = .returned (.bool true) ∧ Step w w' := by
  have HIK := Lib.hid (And.intro (u8_of hi) (u8_of hk))
  clear hi hk
  have HV := Lib.hid (SL.go hv (Step.refl _))
  have HU := Lib.hid (SL.go hu (Step.refl _))
  have HX := Lib.hid (SL.go hx (Step.refl _))
  have HS := Lib.hid (Step.refl w)
  have HT := Lib.hid (Step.refl w)
  have hmx := hx.len
  obtain ⟨pv, cv, rfl⟩ := hv.form
  obtain ⟨pu, cu, rfl⟩ := hu.form
  obtain ⟨px, cx, rfl⟩ := hx.form
  clear hv hu hx
  go_enter Try.func8, Try.ntmps8
  go_wp2_with fail
  refine (Few_any (fun _ => False) l t _ _ _ (HV.out.keep (.of_step HT.out)) (HU.out.keep (.of_step HT.out))).mono ?_
  rintro e wn ⟨rfl, hSn⟩
  have HTi := Lib.hid (HT.out.trans hSn)
  clear hSn HT
  have HT := HTi
  clear HTi
  cases qf : few l t with
  | false =>
    clear qf
    go_wp2_with fail
    refine (wakes_any _).mono ?_
    rintro e wz ⟨rfl, hSz⟩
    go_wp2
    go_ret
    exact ⟨rfl, HS.out.trans (HT.out.trans hSz)⟩
  | true =>
  have HFEW := Lib.hid (few_of qf)
  clear qf
  by_cases h12 : 12 < (wind.length : Int)
  · have hd : decide (12 < (wind.length : Int)) = true := by simpa using h12
    go_wp2_with fail
    refine (wakes_any _).mono ?_
    rintro e wz ⟨rfl, hSz⟩
    go_wp2
    go_ret
    exact ⟨rfl, HS.out.trans (HT.out.trans hSz)⟩
  have hd : decide (12 < (wind.length : Int)) = false := by simpa using h12
  have HL12 := Lib.hid (show wind.length ≤ 12 by omega)
  clear h12
  go_wp2_with fail
  refine (LBlown_any (fun _ => False) l t wind _ _ _ _ (SL.go HV.out HT.out) (SL.go HU.out HT.out) (SL.go HX.out HT.out)).mono ?_
  rintro e wn ⟨rfl, hSn⟩
  have HTi := Lib.hid (HT.out.trans hSn)
  clear hSn HT
  have HT := HTi
  clear HTi
  clear hd
  obtain ⟨c, hc⟩ : ∃ c, c = blownC l t wind := ⟨_, rfl⟩
  rw [← hc]
  by_cases h0 : c = 0
  rotate_left
  · have hd : (c != 0) = true := by simpa using h0
    clear h0 hc
    go_wp2_with fail
    refine (wakes_any _).mono ?_
    rintro e wz ⟨rfl, hSz⟩
    go_wp2
    go_ret
    exact ⟨rfl, HS.out.trans (HT.out.trans hSz)⟩
  subst h0
  have HC := Lib.hid hc.symm
  have HKW := Lib.hid (blown_ok hc.symm)
  have HWL := Lib.hid (wind_all HKW.out.2.2.1).2
  clear hc
  have HV9 := Lib.hid (SL.go HV.out HT.out)
  have HX9 := Lib.hid (SL.go HX.out HT.out)
  have HU9 := Lib.hid (SL.go HU.out HT.out)
  have HS9 := Lib.hid (HS.out.trans HT.out)
  have HT9 := Lib.hid (Step.refl wn)
  clear HV HU HX HS HT
  have HV := HV9
  have HU := HU9
  have HX := HX9
  have HS := HS9
  have HT := HT9
  clear HX9 HV9 HU9 HS9 HT9
  obtain ⟨wb, hwb⟩ : ∃ W, W = wn := ⟨_, rfl⟩
  subst hwb
  clear HT
  obtain ⟨px', cx', bx, ox, hex, _, _, hpx, hcx, _⟩ := HX.out.vecs
  injection hex with hex1 _ hex3
  subst hex1 hex3
  have HPX := Lib.hid (And.intro hpx hcx)
  have HKL := Lib.hid (even_len wind)
  clear hpx hcx
  go_wp2
  go_loopw [11, 12] (fun out i wr => ∃ k : Nat, k ≤ wind.length ∧ i = .int .i64 k ∧ OwnL (Old wb) wb.heap.size 40 wr out ((evenL wind).take k) ∧ Below wb.heap.size wb wr) (fun _ i _ => wind.length - (intOf i).toNat)
  case atStart => exact ⟨0, Nat.zero_le _, rfl, OwnL.nil _ _ _ _, Below.refl _ _⟩
  case round =>
    obtain ⟨k, hj, rfl, hown, hB⟩ := hrel
    have HT := Lib.hid (Step.of hB)
    have HO := Lib.hid hown
    have HB := Lib.hid hB
    obtain ⟨LL, hLL⟩ : ∃ L, L = (evenL wind).take k := ⟨_, rfl⟩
    rw [← hLL] at hown
    obtain ⟨pu, cu, rfl, _⟩ := hown.form
    have HLL := Lib.hid hLL
    clear hown hB hLL
    have hl12 := HL12.out
    by_cases hlt : k < wind.length
    · obtain rfl := HPX.out.1 (by omega)
      obtain ⟨x1, x2⟩ := HPX.out.2 k hlt
      have x1 := HT.out.keeps.cell id x1
      have x2 := HT.out.keeps.cell id x2
      have hjx : (0 : Int) ≤ (k : Int) ∧ (k : Int) < (wind.length : Int) := by omega
      have hin := wind_in HKW.out.2.2.1 _ (List.getElem_mem hlt)
      have hle : k < (evenL wind).length := by have := HKL.out; omega
      have HEV := Lib.hid (show (evenL wind)[k] = evenV wind[k] by simp [evenL])
      obtain ⟨vv, hvv⟩ : ∃ v, v = wind[k] := ⟨_, rfl⟩
      rw [← hvv] at x1 x2 hin HEV
      obtain ⟨a1, a2⟩ := vv
      have hd1 := tdiv2 (N := 5000) hin.1
      have hd2 := tdiv2 (N := 5000) hin.2
      dsimp only at x1 x2 hd1 hd2
      have hw1 : IntKind.i64.wrap (a1.tdiv 2) = a1.tdiv 2 := by rw [IntKind.wrap_i64]; omega
      have hw2 : IntKind.i64.wrap (a2.tdiv 2) = a2.tdiv 2 := by rw [IntKind.wrap_i64]; omega
      have hw3 : IntKind.i64.wrap (a1.tdiv 2 * 2) = a1.tdiv 2 * 2 := by rw [IntKind.wrap_i64]; omega
      have hw4 : IntKind.i64.wrap (a2.tdiv 2 * 2) = a2.tdiv 2 * 2 := by rw [IntKind.wrap_i64]; omega
      clear hvv hin hd1 hd2
      go_upto_region 7 with (fail)
      refine wp_region_seq (kdOf [16] []) [0, 0, 0, 6, 14, 30, 62, 126, 0, 0, 768, 1792, 3840, 7936, 16128, 32766, 65534, 131071, 262143] [0, 1, 2, 3, 4, 5, 6, 7, 8, 9, 10, 11, 12, 13, 14, 15, 16] [17, 18] (by kernel_rfl) (by kernel_rfl) (fun i T z hi hk => by simp [kdOf] at hk <;> (try (split at hk <;> cases hk))) ?_
      intro Wx hWx
      have x1 := hWx.keeps.cell id x1
      have x2 := hWx.keeps.cell id x2
      have hW0 := hWx
      clear hWx
      repeat (first | (refine run_off rfl rfl (by rfl) ?_; (try simp only [Act.put, List.setIfInBounds_toArray, List.set_cons_zero, List.set_cons_succ])) | (refine run_chain_off rfl rfl (by rfl) (K0_mono _) ?_; (try simp only [Act.put, List.setIfInBounds_toArray, List.set_cons_zero, List.set_cons_succ])) | ((refine run_want rfl rfl (by rfl) ⟨?_, fun W hW => ?_, ?_⟩; rotate_left; (· (have d0 := hW.keeps.cell id x1; have d1 := hW.keeps.cell id x2; go_simp; (try with_reducible rfl)))); (try simp only [Act.put, List.setIfInBounds_toArray, List.set_cons_zero, List.set_cons_succ])))
      refine run_chain rfl rfl (by rfl) (fun W1 hW1 K' hK' => ?_)
      go_simp
      refine hK' _ _ (.of (Step.alloc _ _)) ?_
      (try simp only [Act.put, List.setIfInBounds_toArray, List.set_cons_zero, List.set_cons_succ])
      refine run_end (L := [_, _]) rfl (fun W2 hW2 => ?_)
      have hown2 := ((HO.out.step (hW0.trans hW1)).alloc (.cells #[.int .i64 (a1.tdiv 2 * 2), .int .i64 (a2.tdiv 2 * 2)] 40)).step hW2
      have hu := (SLe.one (S := avoid (Old wb) (.slice pu LL.length cu)) (w := W1) (cs := [.int .i64 (a1.tdiv 2 * 2), .int .i64 (a2.tdiv 2 * 2)]) (x := (evenL wind)[k]) 40 (by rw [HEV.out]; rfl)).step hW2
      have hB2 := ((HB.out.step (Nat.le_refl _) (hW0.trans hW1)).step (Nat.le_refl _) (Step.alloc _ (.cells #[.int .i64 (a1.tdiv 2 * 2), .int .i64 (a2.tdiv 2 * 2)] 40))).step (Nat.le_refl _) hW2
      clear hW0 hW1 hW2 hK'
      go_wp2_with (at_builtin; refine wpl_append1 (l := (evenL wind)) (k := k) eiVecs rfl _ _ rfl rfl rfl hown2 hle (by have := HKL.out; omega) (by decide) hu hB2 (Nat.le_refl _) ?_)
      intro p' c' w2 hown3 hB3 _
      have H3 := Lib.hid (And.intro hown3 hB3)
      clear hown2 hu hB2 hown3 hB3
      go_wp2
      go_roundw
      case rel => exact ⟨k + 1, by omega, by go_num, H3.out.1, H3.out.2⟩
      case measure => simp [intOf]; omega
    · have HN := Lib.hid (show LL = evenL wind by rw [HLL.out, List.take_of_length_le (by have := HKL.out; omega)])
      have hsl := HO.out.slb (S := Old wb) (fun g hg hs => by have := (HO.out.lt g hg).1; unfold Old at hs; omega)
      rw [← HLL.out, HN.out] at hsl
      rw [HN.out]
      have HVE := Lib.hid (SL.go hsl (Step.refl _))
      clear hsl HO HB HLL
      have HV9 := Lib.hid (SL.go HV.out HT.out)
      have HX9 := Lib.hid (SL.go HX.out HT.out)
      have HU9 := Lib.hid (SL.go HU.out HT.out)
      have HS9 := Lib.hid (HS.out.trans HT.out)
      have HT9 := Lib.hid (Step.refl wr)
      clear HV HU HX HS HT
      have HV := HV9
      have HU := HU9
      have HX := HX9
      have HS := HS9
      have HT := HT9
      clear HX9 HV9 HU9 HS9 HT9
      go_wp2_with fail
      refine (Tests_any _ l _ _ (SL.go HV.out HT.out) (by have := HFEW.out.1; omega)).mono ?_
      rintro e wn ⟨v1, rfl, hv1, hSn⟩
      have HTi := Lib.hid (HT.out.trans hSn)
      clear hSn HT
      have HT := HTi
      clear HTi
      have HV1 := Lib.hid (SL.go hv1 (Step.refl _))
      clear hv1
      go_wp2_with fail
      refine (Tent_any _ t _ _ (SL.go HU.out HT.out) HFEW.out.2).mono ?_
      rintro e wm ⟨v2, rfl, hv2, hSn⟩
      have HTm := Lib.hid (HT.out.trans hSn)
      have HV1m := Lib.hid (SL.go HV1.out hSn)
      have HV2 := Lib.hid (SL.go hv2 (Step.refl _))
      have HVEm := Lib.hid (SL.go HVE.out HTm.out)
      clear hSn HT HV1 hv2 HVE
      go_wp2_with fail
      refine (stands_any (fun _ => False) l t (evenL wind) _ _ _ _ HV1m.out HV2.out HVEm.out).mono ?_
      rintro e wn ⟨rfl, hSn⟩
      have HT := Lib.hid (HTm.out.trans hSn)
      have HV1 := Lib.hid (SL.go HV1m.out hSn)
      have HV2n := Lib.hid (SL.go HV2.out hSn)
      have HVE := Lib.hid (SL.go HVEm.out hSn)
      clear hSn HTm HV1m HVEm HV2
      obtain ⟨st, hst⟩ : ∃ b, b = standsL l t (evenL wind) := ⟨_, rfl⟩
      rw [← hst]
      cases st with
      | false =>
        clear hst
        go_wp2_with fail
        refine (wakes_any _).mono ?_
        rintro e wz ⟨rfl, hSz⟩
        go_wp2
        go_ret
        exact ⟨rfl, HS.out.trans (HT.out.trans hSz)⟩
      | true =>
        have hstb : standB l t (evenL wind) = true := by
          unfold standsL at hst
          cases q : standB l t (evenL wind) with
          | true => rfl
          | false => rw [q, Bool.and_false] at hst; exact absurd hst (by decide)
        have HST := Lib.hid hstb
        clear hst hstb
        have HV9 := Lib.hid (SL.go HV.out HT.out)
        have HX9 := Lib.hid (SL.go HX.out HT.out)
        have HU9 := Lib.hid (SL.go HU.out HT.out)
        have HS9 := Lib.hid (HS.out.trans HT.out)
        have HT9 := Lib.hid (Step.refl wn)
        clear HV HU HX HS HT
        have HV := HV9
        have HU := HU9
        have HX := HX9
        have HS := HS9
        have HT := HT9
        clear HX9 HV9 HU9 HS9 HT9
        obtain ⟨pe, ce, be, oe, hee, _, _, hpe, hce, _⟩ := HVE.out.vecs
        injection hee with hee1 _ hee3
        subst hee1 hee3
        have hik := HIK.out
        have hwl := HWL.out
        have hkl := HKL.out
        obtain ⟨ii, hii, hilt⟩ := rem_index (n := (evenL wind).length) hik.1.1 (by omega)
        obtain ⟨kk, hkk, hklt⟩ := rem_index (n := (evenL wind).length) hik.2.1 (by omega)
        obtain rfl := hpe (by omega)
        have HCE := Lib.hid (And.intro (hce ii hilt) (hce kk hklt))
        have hmi := List.getElem_mem hilt
        have hmk := List.getElem_mem hklt
        obtain ⟨va, hva⟩ : ∃ v, v = (evenL wind)[ii] := ⟨_, rfl⟩
        obtain ⟨vb, hvb⟩ : ∃ v, v = (evenL wind)[kk] := ⟨_, rfl⟩
        rw [← hva, ← hvb] at HCE
        rw [← hva] at hmi
        rw [← hvb] at hmk
        have HMM := Lib.hid (And.intro hmi hmk)
        have hai := even_in HKW.out.2.2.1 _ hmi
        have hbi := even_in HKW.out.2.2.1 _ hmk
        have hw1 : IntKind.i64.wrap i0 = i0 := by rw [IntKind.wrap_i64]; omega
        have hw2 : IntKind.i64.wrap k0 = k0 := by rw [IntKind.wrap_i64]; omega
        have hx1 : (0 : Int) ≤ (ii : Int) ∧ (ii : Int) < ((evenL wind).length : Int) := by omega
        have hx2 : (0 : Int) ≤ (kk : Int) ∧ (kk : Int) < ((evenL wind).length : Int) := by omega
        have hne : ((evenL wind).length : Int) ≠ 0 := by omega
        have hne3 : ¬ (evenL wind).length = 0 := by omega
        have HAB := Lib.hid (And.intro hai hbi)
        clear hva hvb hmi hmk hai hbi hpe hce hik hwl hkl
        go_upto_region 11 with (fail)
        have a1 := HCE.out.1.1
        have a2 := HCE.out.1.2
        have b1 := HCE.out.2.1
        have b2 := HCE.out.2.2
        have hbl := World.block_lt_of_cell? wn _ a1
        dsimp only at hbl
        obtain ⟨wr, hwr⟩ : ∃ W, W = wn := ⟨_, rfl⟩
        subst hwr
        go_cut [15, 16] (fun p q wx => ∃ ga gm, p = .pointer (some ⟨ga, 0, none⟩) ∧ q = .pointer (some ⟨gm, 0, none⟩) ∧ Bx wx ga [.int .i64 va.x, .int .i64 va.y] 40 ∧ Bx wx gm [.int .i64 vb.x, .int .i64 vb.y] 40 ∧ Step wr wx)
        case first =>
          go_region
          · go_wp2_with fail
            go_meet
            exact ⟨_, _, rfl, rfl, ((Bx.new wr [_, _] _).alloc _).step (.drew _), (Bx.new' _ [_, _] _ _ (by simp)).step (.drew _), (by repeat (first | (with_reducible assumption) | (with_reducible exact Step.refl _) | (with_reducible apply Step.s_alloc) | (with_reducible apply Step.s_drew) | (with_reducible apply Step.s_drewN) | (with_reducible refine Step.trans ?_ (by with_reducible assumption))))⟩
          · go_wp2_with fail
            go_meet
            exact ⟨_, _, rfl, rfl, (Bx.new' _ [_, _] _ _ (by simp)).step (.drew _), ((Bx.new wr [_, _] _).alloc _).step (.drew _), (by repeat (first | (with_reducible assumption) | (with_reducible exact Step.refl _) | (with_reducible apply Step.s_alloc) | (with_reducible apply Step.s_drew) | (with_reducible apply Step.s_drewN) | (with_reducible refine Step.trans ?_ (by with_reducible assumption))))⟩
        case rest =>
        obtain ⟨g5, g6, rfl, rfl, hba, hbb, hSx⟩ := hcut
        clear a1 a2 b1 b2 hbl
        obtain ⟨w9, hw9⟩ : ∃ W, W = wc := ⟨_, rfl⟩
        subst hw9
        have HBA := Lib.hid hba
        have HBB := Lib.hid hbb
        have HTx := Lib.hid hSx
        clear hba hbb hSx HT
        have HVE9 := Lib.hid (SL.go HVE.out HTx.out)
        have HV19 := Lib.hid (SL.go HV1.out HTx.out)
        have HV29 := Lib.hid (SL.go HV2n.out HTx.out)
        have HS9 := Lib.hid (HS.out.trans HTx.out)
        clear HS HVE HV1 HV2n HV HU HX HTx HPX
        have HS := HS9
        clear HS9
        have HT := Lib.hid (Step.refl w9)
        have r0 := HBA.out.cell 0
        have r1 := HBA.out.cell 1
        have q0 := HBB.out.cell 0
        have q1 := HBB.out.cell 1
        have rl := HBA.out.lt
        have ql := HBB.out.lt
        simp only [List.getElem?_cons_zero, List.getElem?_cons_succ] at r0 r1 q0 q1
        have hmi := mean_in HAB.out.1 HAB.out.2
        have hab := HAB.out
        obtain ⟨va1, va2⟩ := va
        obtain ⟨vb1, vb2⟩ := vb
        unfold inV at hab
        dsimp only at r0 r1 q0 q1 hab
        have hs1 : IntKind.i64.wrap (va1 + vb1) = va1 + vb1 := by rw [IntKind.wrap_i64]; omega
        have hs2 : IntKind.i64.wrap (va2 + vb2) = va2 + vb2 := by rw [IntKind.wrap_i64]; omega
        have hmx : -10000 ≤ (va1 + vb1).tdiv 2 ∧ (va1 + vb1).tdiv 2 ≤ 10000 := hmi.1
        have hmy : -10000 ≤ (va2 + vb2).tdiv 2 ∧ (va2 + vb2).tdiv 2 ≤ 10000 := hmi.2
        have hs3 : IntKind.i64.wrap ((va1 + vb1).tdiv 2) = (va1 + vb1).tdiv 2 := by rw [IntKind.wrap_i64]; omega
        have hs4 : IntKind.i64.wrap ((va2 + vb2).tdiv 2) = (va2 + vb2).tdiv 2 := by rw [IntKind.wrap_i64]; omega
        have HSM := Lib.hid (show standsL l t [meanV ⟨va1, va2⟩ ⟨vb1, vb2⟩] = true by
          unfold standsL
          rw [blown_other HC.out (windB_of (by simp) (by simp) fun v hv => by rw [List.mem_singleton.1 hv]; exact hmi), stand_mean HST.out HMM.out.1 HMM.out.2]; rfl)
        clear hab hmi hmx hmy
        go_wp2_with fail
        have ha := Step.alloc w9 (.cells #[.int .i64 ((va1 + vb1).tdiv 2), .int .i64 ((va2 + vb2).tdiv 2)] 40)
        have hone := SL.one (S := fun _ => False) (w := w9) (cs := [.int .i64 ((va1 + vb1).tdiv 2), .int .i64 ((va2 + vb2).tdiv 2)]) (x := meanV ⟨va1, va2⟩ ⟨vb1, vb2⟩) 40 rfl id
        refine (stands_any (fun _ => False) l t [meanV ⟨va1, va2⟩ ⟨vb1, vb2⟩] _ _ _ _ (SL.go HV19.out ha) (SL.go HV29.out ha) hone).mono ?_
        rintro e wn ⟨rfl, hSn⟩
        rw [HSM.out]
        have HT2 := Lib.hid (ha.trans hSn)
        have HST2 := Lib.hid (show standsL l t ((evenL wind).take (kk + 1)) = true by
          unfold standsL
          rw [blown_other HC.out (windB_of (by rw [List.length_take]; have := HWL.out; have := HKL.out; omega) (by rw [List.length_take]; have := HKL.out; have := HL12.out; omega) fun v hv => even_in HKW.out.2.2.1 v (List.mem_of_mem_take hv)), stand_take HST.out]; rfl)
        have hcap : (evenL wind).length ≤ cu := by
          obtain ⟨_, _, _, _, he, h2, _⟩ := HVE9.out
          injection he with _ _ e3
        have hkl := HKL.out
        have hl12 := HL12.out
        have hs5 : IntKind.i64.wrap (1 + (kk : Int)) = 1 + (kk : Int) := by rw [IntKind.wrap_i64]; omega
        have htn : (1 + (kk : Int)).toNat = kk + 1 := by omega
        have hin : (0 : Int) ≤ 1 + (kk : Int) ∧ 1 + (kk : Int) ≤ (cu : Int) := by omega
        have htk := SL.take (SL.go HVE9.out HT2.out) (show kk + 1 ≤ (evenL wind).length by omega)
        have HTK := Lib.hid htk
        clear hone ha hSn htk hcap hkl hs1 hs2 hs3 hs4 r0 r1 q0 q1 rl ql
        go_wp2_with fail
        refine (stands_any (fun _ => False) l t ((evenL wind).take (kk + 1)) _ _ _ _ (SL.go HV19.out HT2.out) (SL.go HV29.out HT2.out) (by rw [show kk + 1 = ((evenL wind).take (kk + 1)).length by rw [List.length_take]; omega] at HTK ⊢; exact HTK.out)).mono ?_
        rintro e wn ⟨rfl, hSn⟩
        rw [HST2.out]
        have HTf := Lib.hid (HT2.out.trans hSn)
        clear hSn HT hs5 htn hin HTK
        have HT := HTf
        clear HTf
        go_wp2_with fail
        refine (wakes_any _).mono ?_
        rintro e wz ⟨rfl, hSz⟩
        go_wp2
        go_ret
        exact ⟨rfl, HS.out.trans (HT.out.trans hSz)⟩
end Go.Proofs.Ytdcjbbeoocldeaa
