/- Walks and plain laws, part h. -/
import Derived.Test.YtgpiieogiafdoaaGreatMe
import Derived.Test.YtgpiieogiafdoaaGreatMf
import Derived.Test.YtgpiieogiafdoaaGreatMg
namespace Go.Proofs.YtgpiieogiafdoaaGreat
set_option linter.unusedSimpArgs false
set_option linter.unusedVariables false
open Go.RowKit Go.BT
theorem empty_world {w : World} : AV (fun _ => False) w (.agg #[.slice none 0 0, .slice none 0 0]) (⟨[], []⟩ : Wd) := ⟨_, rfl, _, _, rfl, SL.nil _ _, SL.nil _ _⟩
theorem world_thin {h : House} (hv : valid h = true) (l : List ActT) (k : Nat) : ∀ i (hi : i < (worldAt h l k).books.length), thinP (worldAt h l k).books[i] := fun i hi =>
 (okDesk_book hv ((world_ok hv l k).book i hi).1).2.2.2
theorem runC_bad {h : House} {l : List ActT} (hv : valid h = false) : runC h l = 1 := by simp [runC, hv]
theorem runC_many {h : House} {l : List ActT} (hv : valid h = true) (hl : 200 < l.length) : runC h l = 3 := by simp [runC, hv, hl]
theorem runC_ok {h : House} {l : List ActT} (hv : valid h = true) (hl : ¬ 200 < l.length) : runC h l = 0 := by simp [runC, hv, hl]
theorem acts_few {l : List ActT} (ha : actsB l = true) : l.length ≤ 202 ∧ (¬ 200 < l.length → l.length ≤ 40) := by
 unfold actsB actsA at ha
 simp only [Bool.and_eq_true, Bool.or_eq_true, decide_eq_true_eq] at ha
 omega
set_option maxRecDepth 100000 in
set_option maxHeartbeats 8000000 in
theorem TicketRuns_any (h : House) (l : List ActT) (v u : Value) (w : World) (hv : AV (fun _ => False) w v h) (hu : SL (fun _ => False) w u l) :
  Calls Tryz.prog 3 #[v, u] w fun e w' => e = .returned (.bool true) ∧ Step w w' := by
 obtain ⟨c0, c1, c2, c3, c4, rfl, h0, h1, h2, h3, h4⟩ := hv.house
 obtain ⟨p0, k0, rfl⟩ := h0.form
 obtain ⟨p1, k1, rfl⟩ := h1.form
 obtain ⟨p2, k2, rfl⟩ := h2.form
 obtain ⟨p3, k3, rfl⟩ := h3.form
 obtain ⟨p4, k4, rfl⟩ := h4.form
 obtain ⟨pu, ku, rfl⟩ := hu.form
 obtain ⟨W0, hW0⟩ : ∃ W0, W0 = w.alloc (.cells #[.slice p0 h.sectors.length k0, .slice p1 h.prices.length k1, .slice p2 h.dates.length k2, .slice p3 h.frm.length k3, .slice p4 h.holds.length k4] 26) := ⟨_, rfl⟩
 have hS : Step w W0 := by subst hW0; exact Step.alloc _ _
 have hb0 : Bx W0 w.heap.size [.slice p0 h.sectors.length k0, .slice p1 h.prices.length k1, .slice p2 h.dates.length k2, .slice p3 h.frm.length k3, .slice p4 h.holds.length k4] 26 := by subst hW0; exact Bx.new _ [_, _, _, _, _] _
 have HH := Lib.hid (hv.keep (.of_step hS))
 have HU := Lib.hid (hu.keep (.of_step hS))
 have HPR := Lib.hid (h1.keep (.of_step hS))
 have HS := Lib.hid hS
 have HB := Lib.hid hb0
 have HW := Lib.hid hW0
 clear hv hu hS hb0 hW0 h0 h1 h2 h3 h4
 go_enter Tryz.func3, Tryz.ntmps3
 go_upto_region 1 with (fail)
 rw [← HW.out]
 clear HW
 obtain ⟨e0, e1, e2, e3, e4⟩ := cells5 HB.out
 go_wp2_with fail
 refine (Few_any (fun _ => False) h _ _ HH.out).mono ?_
 rintro e wn ⟨rfl, hSn⟩
 have HT := Lib.hid hSn
 clear hSn e0 e1 e2 e3 e4
 cases qf : few h with
 | false =>
  clear qf
  go_wp2_with fail
  refine (awake_any _).mono ?_
  rintro e wz ⟨rfl, hSz⟩
  go_wp2
  go_ret
  exact ⟨rfl, HS.out.trans (HT.out.trans hSz)⟩
 | true =>
 have HF := Lib.hid (fewB_of qf)
 clear qf
 go_wp2_with fail
 refine (acts_any (fun _ => False) l _ _ (HU.out.keep (.of_step HT.out))).mono ?_
 rintro e wn ⟨rfl, hSn⟩
 have HT2 := Lib.hid (HT.out.trans hSn)
 clear hSn HT
 have HT := HT2
 clear HT2
 cases qa : actsB l with
 | false =>
  clear qa
  go_wp2_with fail
  refine (awake_any _).mono ?_
  rintro e wz ⟨rfl, hSz⟩
  go_wp2
  go_ret
  exact ⟨rfl, HS.out.trans (HT.out.trans hSz)⟩
 | true =>
 have HAC := Lib.hid qa
 have hl2 : l.length ≤ 202 := (acts_few qa).1
 clear qa
 replace HH := Lib.hid (HH.out.keep (.of_step HT.out)); replace HU := Lib.hid (HU.out.keep (.of_step HT.out)); replace HB := Lib.hid (HB.out.step HT.out); replace HS := Lib.hid (HS.out.trans HT.out)
 clear HT
 go_upto_region 3 with (fail)
 obtain ⟨e0, e1, e2, e3, e4⟩ := cells5 HB.out
 go_wp2_with fail
 refine (House_any _ h _ _ HH.out HF.out).mono ?_
 rintro e wn ⟨vh, rfl, hvh, hSn⟩
 have HVH := Lib.hid (av0 hvh)
 have HT := Lib.hid hSn
 clear hSn hvh e0 e1 e2 e3 e4
 go_wp2_with fail
 refine (Acts_any _ l _ _ (HU.out.keep (.of_step HT.out)) (by omega) (fun i hi => by have := acts_seats HAC.out i hi; omega)).mono ?_
 rintro e wq ⟨va, rfl, hva, hSn⟩
 have HVA := Lib.hid (hva.weak (T := fun _ => False) fun _ _ h => h.elim)
 have HVH2 := Lib.hid (HVH.out.keep (.of_step hSn))
 have HT2 := Lib.hid (HT.out.trans hSn)
 clear hSn hva HT HVH
 go_wp2_with fail
 refine (Run_any (fun _ => False) h l _ _ _ HVH2.out HVA.out (fun i hi => by have := acts_seats HAC.out i hi; omega)).mono ?_
 rintro e wn2 ⟨vw, ve, rfl, hvw, hve, hSn⟩
 obtain ⟨b0, b1, rfl, s0, s1⟩ := hvw.wd
 obtain ⟨q0, r0, rfl⟩ := s0.form
 obtain ⟨q1, r1, rfl⟩ := s1.form
 obtain ⟨q2, r2, rfl⟩ := hve.form
 have HVW := Lib.hid (av0 hvw)
 have HVE := Lib.hid (hve.weak (T := fun _ => False) fun _ _ h => h.elim)
 have HT := Lib.hid (HT2.out.trans hSn)
 clear s0 s1 hvw hve HVH2 HVA HT2 hSn
 go_upto_region 5 with (fail)
 obtain ⟨g5, hg5⟩ : ∃ g, g = wn2.heap.size := ⟨_, rfl⟩
 obtain ⟨w7, hw7⟩ : ∃ z9, z9 = wn2.alloc (.cells #[.slice q0 (runW h l).books.length r0, .slice q1 (runW h l).msgs.length r1] 34) := ⟨_, rfl⟩
 have hb7 : Bx w7 g5 [.slice q0 (runW h l).books.length r0, .slice q1 (runW h l).msgs.length r1] 34 := by subst hw7 hg5; exact Bx.new _ [_, _] _
 have hS7 : Step wn2 w7 := by subst hw7; exact Step.alloc _ _
 rw [← hw7, ← hg5]
 have HB5 := Lib.hid hb7
 have HTx := Lib.hid (HT.out.trans hS7)
 replace HVW := Lib.hid (HVW.out.keep (.of_step hS7)); replace HVE := Lib.hid (HVE.out.keep (.of_step hS7))
 clear hb7 hg5 hw7 hS7 HT
 replace HH := Lib.hid (HH.out.keep (.of_step HTx.out)); replace HU := Lib.hid (HU.out.keep (.of_step HTx.out)); replace HB := Lib.hid (HB.out.step HTx.out); replace HS := Lib.hid (HS.out.trans HTx.out)
 clear HTx
 obtain ⟨e0, e1, e2, e3, e4⟩ := cells5 HB.out
 go_wp2_with fail
 refine (Right_any (fun _ => False) h _ _ HH.out).mono ?_
 rintro e wn ⟨rfl, hSn⟩
 have HT := Lib.hid hSn
 clear hSn e0 e1 e2 e3 e4
 cases qv : valid h with
 | false =>
  have HRC := Lib.hid (runC_bad (l := l) qv)
  rw [HRC.out]
  clear qv
  have hwE : runW h l = ⟨[], []⟩ := by rw [runW, if_neg (by rw [HRC.out]; decide)]
  have heE : runE h l = [] := by rw [runE, if_neg (by rw [HRC.out]; decide)]
  have hvw := HVW.out
  have hb5 := HB5.out
  rw [hwE] at hvw hb5
  rw [heE]
  have HVW := Lib.hid hvw
  have HB5 := Lib.hid hb5
  clear hwE heE hvw hb5
  go_upto_region 10 with (fail)
  obtain ⟨y0, y1⟩ : _ ∧ _ := ⟨(HB5.out.step HT.out).cell 0, (HB5.out.step HT.out).cell 1⟩
  simp only [zD, zE, List.length_nil] at y0 y1
  go_wp2_with fail
  refine (worlds_same (fun _ => False) (fun _ => False) (⟨[], []⟩ : Wd) _ _ _ (HVW.out.keep (.of_step HT.out)) empty_world (fun i hi => absurd hi (by simp))).mono ?_
  rintro e wn ⟨rfl, hSn⟩
  have HTx := Lib.hid (HT.out.trans hSn)
  clear HT hSn y0 y1
  have HT := HTx
  clear HTx
  go_wp2_with fail
  refine (awake_any _).mono ?_
  rintro e wz ⟨rfl, hSz⟩
  go_wp2
  go_ret
  exact ⟨rfl, HS.out.trans (HT.out.trans hSz)⟩
 | true =>
 have HV := Lib.hid qv
 clear qv
 by_cases hl : 200 < l.length
 ·have HRC := Lib.hid (runC_many HV.out hl)
  have d1 : decide ((200 : Int) < (l.length : Int)) = true := decide_eq_true (by omega)
  have d1n : decide (200 < l.length) = true := decide_eq_true hl
  rw [HRC.out]
  clear hl
  have hwE : runW h l = ⟨[], []⟩ := by rw [runW, if_neg (by rw [HRC.out]; decide)]
  have heE : runE h l = [] := by rw [runE, if_neg (by rw [HRC.out]; decide)]
  have hvw := HVW.out
  have hb5 := HB5.out
  rw [hwE] at hvw hb5
  rw [heE]
  have HVW := Lib.hid hvw
  have HB5 := Lib.hid hb5
  clear hwE heE hvw hb5
  go_upto_region 10 with (fail)
  obtain ⟨y0, y1⟩ : _ ∧ _ := ⟨(HB5.out.step HT.out).cell 0, (HB5.out.step HT.out).cell 1⟩
  simp only [zD, zE, List.length_nil] at y0 y1
  go_wp2_with fail
  refine (worlds_same (fun _ => False) (fun _ => False) (⟨[], []⟩ : Wd) _ _ _ (HVW.out.keep (.of_step HT.out)) empty_world (fun i hi => absurd hi (by simp))).mono ?_
  rintro e wn ⟨rfl, hSn⟩
  have HTx := Lib.hid (HT.out.trans hSn)
  clear HT hSn y0 y1
  have HT := HTx
  clear HTx
  go_wp2_with fail
  refine (awake_any _).mono ?_
  rintro e wz ⟨rfl, hSz⟩
  go_wp2
  go_ret
  exact ⟨rfl, HS.out.trans (HT.out.trans hSz)⟩
 have HRC := Lib.hid (runC_ok HV.out hl)
 have d1 : decide ((200 : Int) < (l.length : Int)) = false := decide_eq_false (by omega)
 have d1n : decide (200 < l.length) = false := decide_eq_false hl
 rw [HRC.out]
 have hl4 : l.length ≤ 40 := (acts_few HAC.out).2 hl
 clear hl
 have hwE : runW h l = worldAt h l l.length := by rw [runW, if_pos HRC.out]
 have heE : runE h l = errsTo h l l.length := by rw [runE, if_pos HRC.out]
 have hvw := HVW.out
 have hve := HVE.out
 have hb5 := HB5.out
 rw [hwE] at hvw hb5
 rw [heE] at hve
 rw [heE]
 rw [errsTo_len] at hve ⊢
 have HVW := Lib.hid hvw
 have HVE := Lib.hid hve
 have HB5 := Lib.hid hb5
 clear hwE heE hvw hve hb5
 obtain ⟨W, hW⟩ : ∃ z9, z9 = worldAt h l l.length := ⟨_, rfl⟩
 have hth := world_thin HV.out l l.length
 rw [← hW] at HVW HB5 hth
 have HWW := Lib.hid hW
 have HTH := Lib.hid hth
 clear hW hth
 replace HH := Lib.hid (HH.out.keep (.of_step HT.out)); replace HU := Lib.hid (HU.out.keep (.of_step HT.out)); replace HVW := Lib.hid (HVW.out.keep (.of_step HT.out)); replace HVE := Lib.hid (HVE.out.keep (.of_step HT.out)); replace HB := Lib.hid (HB.out.step HT.out); replace HB5 := Lib.hid (HB5.out.step HT.out); replace HS := Lib.hid (HS.out.trans HT.out)
 clear HT
 obtain ⟨e0, e1, e2, e3, e4⟩ := cells5 HB.out
 go_upto_region 11 with (fail)
 clear d1 d1n
 go_wp2_with fail
 refine (RRun_any (fun _ => False) (fun _ => False) h l _ _ _ HH.out HU.out HV.out (fun i hi => by have := acts_seats HAC.out i hi; omega) (by omega)).mono ?_
 rintro e wn ⟨vx, vc, rfl, hvx, hvc, hSn⟩
 rw [← HWW.out] at hvx
 obtain ⟨b0, b1, rfl, s0, s1⟩ := hvx.wd
 obtain ⟨z0, j0, rfl⟩ := s0.form
 obtain ⟨z1, j1, rfl⟩ := s1.form
 obtain ⟨z2, j2, rfl⟩ := hvc.form
 rw [errsTo_len] at hvc ⊢
 have HVX := Lib.hid (av0 hvx)
 have HVC := Lib.hid (hvc.weak (T := fun _ => False) fun _ _ h => h.elim)
 clear s0 s1 hvx hvc e0 e1 e2 e3 e4
 replace HH := Lib.hid (HH.out.keep (.of_step hSn)); replace HU := Lib.hid (HU.out.keep (.of_step hSn)); replace HVW := Lib.hid (HVW.out.keep (.of_step hSn)); replace HVE := Lib.hid (HVE.out.keep (.of_step hSn)); replace HB := Lib.hid (HB.out.step hSn); replace HB5 := Lib.hid (HB5.out.step hSn); replace HS := Lib.hid (HS.out.trans hSn)
 clear hSn
 go_upto_region 12 with (fail)
 obtain ⟨g9, hg9⟩ : ∃ g, g = wn.heap.size := ⟨_, rfl⟩
 obtain ⟨W9, hW9⟩ : ∃ z9, z9 = wn.alloc (.cells #[.slice z0 W.books.length j0, .slice z1 W.msgs.length j1] 49) := ⟨_, rfl⟩
 have hb9 : Bx W9 g9 [.slice z0 W.books.length j0, .slice z1 W.msgs.length j1] 49 := by subst hW9 hg9; exact Bx.new _ [_, _] _
 have hS9 : Step wn W9 := by subst hW9; exact Step.alloc _ _
 rw [← hW9, ← hg9]
 replace HVW := Lib.hid (HVW.out.keep (.of_step hS9)); replace HVE := Lib.hid (HVE.out.keep (.of_step hS9)); replace HVX := Lib.hid (HVX.out.keep (.of_step hS9)); replace HVC := Lib.hid (HVC.out.keep (.of_step hS9)); replace HB := Lib.hid (HB.out.step hS9); replace HB5 := Lib.hid (HB5.out.step hS9); replace HS := Lib.hid (HS.out.trans hS9)
 obtain ⟨y0, y1⟩ : _ ∧ _ := ⟨HB5.out.cell 0, HB5.out.cell 1⟩
 obtain ⟨n0, n1⟩ : _ ∧ _ := ⟨hb9.cell 0, hb9.cell 1⟩
 simp only [zD, zE] at y0 y1 n0 n1
 have d1 : ((l.length : Int) != (l.length : Int)) = false := by simp
 clear hW9 hg9 hS9 hb9
 go_wp2_with fail
 refine (worlds_same (fun _ => False) (fun _ => False) W _ _ _ HVW.out HVX.out HTH.out).mono ?_
 rintro e wn3 ⟨rfl, hSn⟩
 clear y0 y1 n0 n1 d1
 obtain ⟨pe, ke, be, oe, he1, _, _, hpe, hce, _⟩ := (HVE.out.keep (.of_step hSn)).ints
 injection he1 with e1 e2 e3
 clear e2 e3
 subst e1
 obtain ⟨pc, kc, bc, oc, he1, _, _, hpc, hcc, _⟩ := (HVC.out.keep (.of_step hSn)).ints
 injection he1 with e1 e2 e3
 clear e2 e3
 subst e1
 rw [errsTo_len] at hpe hpc
 have HE := Lib.hid (And.intro (And.intro hpe hce) (And.intro hpc hcc))
 have HS3 := Lib.hid (HS.out.trans hSn)
 clear hpe hce hpc hcc hSn
 have HT0 := Lib.hid (Step.refl wn3)
 go_upto_region 15 with (fail)
 go_loopw [11] (fun i wr => ∃ k : Nat, k ≤ l.length ∧ i = .int .i64 k ∧ Step wn3 wr) (fun i _ => l.length - (intOf i).toNat)
 case atStart => exact ⟨0, Nat.zero_le _, rfl, HT0.out⟩
 case round =>
  obtain ⟨k, hk, rfl, hT⟩ := hrel
  have HTr := Lib.hid hT
  clear hT
  by_cases hlt : k < l.length
  ·obtain rfl := HE.out.1.1 (by omega)
   obtain rfl := HE.out.2.1 (by omega)
   have hke : k < (errsTo h l l.length).length := by rw [errsTo_len]; exact hlt
   have n0 := HE.out.1.2 k hke
   have n1 := HE.out.2.2 k hke
   obtain ⟨er, her⟩ : ∃ e, e = (errsTo h l l.length)[k]'hke := ⟨_, rfl⟩
   rw [← her] at n0 n1
   have n0 := HTr.out.kc n0
   have n1 := HTr.out.kc n1
   have d1 : (er != er) = false := by simp
   have hix : (0 : Int) ≤ (k : Int) ∧ (k : Int) < (l.length : Int) := by omega
   clear her
   go_wp2
   go_quiet (fail)
   go_wp2
   go_roundw
   case rel => exact ⟨k + 1, by omega, by go_num, HTr.out.trans (Step.drewN _ _)⟩
   case measure => simp [intOf]; omega
  ·have HS := HS3
   have HT := HTr
   go_wp2_with fail
   refine (awake_any _).mono ?_
   rintro e wz ⟨rfl, hSz⟩
   go_wp2
   go_ret
   exact ⟨rfl, HS.out.trans (HT.out.trans hSz)⟩
end Go.Proofs.YtgpiieogiafdoaaGreat
