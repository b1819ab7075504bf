/- Walks and plain laws, part d. -/
import Derived.Test.YtfhmdpicoccnfaaGreatMa
import Derived.Test.YtfhmdpicoccnfaaGreatMb
import Derived.Test.YtfhmdpicoccnfaaGreatMc
import Derived.Test.YtfhmdpicoccnfaaGreatRows
set_option maxHeartbeats 16000000
set_option maxRecDepth 100000
set_option linter.unusedVariables false
set_option linter.unusedSimpArgs false
namespace Go.BT
def stRefB (l : List Stg) (i : Nat) : Bool := match l[i]? with
 | some x => withinB x.cover 0 100 && (decide (i + 1 = l.length) == decide (x.cover = 0)) && (match i with | 0 => true | j + 1 => match l[j]? with | some y => decide (x.cover < y.cover) | none => true) && (!decide (i + 1 = l.length) || decide (x.minutes = 0)) && (decide (i + 1 = l.length) || withinB x.minutes 1 240)
 | none => true
theorem site_ref (s : Site) : siteB s = (s.base.all baseB && (List.range s.levels.length).all (levelB s.levels) && (List.range s.stages.length).all (stRefB s.stages) && withinB s.base.length 1 12 && withinB s.levels.length 1 10 && withinB s.stages.length 2 8 && withinB s.openS 0 ((s.stages.length : Int) - 2)) := by
 rw [Bool.eq_iff_iff]
 unfold siteB
 simp only [Bool.and_eq_true, decide_eq_true_eq]
 constructor
 ·rintro ⟨⟨⟨⟨⟨⟨⟨h1, h2⟩, h3⟩, h4⟩, h5⟩, h6⟩, h7⟩, h8⟩
  refine ⟨⟨⟨⟨⟨⟨h2, h5⟩, ?_⟩, h1⟩, h3⟩, h4⟩, h8⟩
  have hn : 2 ≤ s.stages.length := by simp only [withinB, Bool.and_eq_true, decide_eq_true_eq] at h4; omega
  rw [List.all_eq_true] at h6 ⊢
  intro i hi
  rw [List.mem_range] at hi
  by_cases e : i + 1 = s.stages.length
  ·rw [show s.stages.length - 1 = i by omega, List.getElem?_eq_getElem hi] at h7
   have h7 := Option.some.inj h7
   have hp := h6 (i - 1) (by rw [List.mem_range]; omega)
   unfold stRefB
   rw [List.getElem?_eq_getElem hi]
   simp only [e, h7, decide_true, Bool.not_true, Bool.false_or, Bool.true_or, Bool.and_true, beq_self_eq_true]
   cases i with
   | zero => omega
   | succ j =>
    simp only [Nat.add_sub_cancel] at hp
    unfold stageB at hp
    rw [List.getElem?_eq_getElem (show j < s.stages.length by omega)] at hp
    simp only [Bool.and_eq_true, withinB, decide_eq_true_eq] at hp
    simp only [List.getElem?_eq_getElem (show j < s.stages.length by omega)]
    simp [withinB]; omega
  ·have hp := h6 i (by rw [List.mem_range]; omega)
   unfold stageB at hp
   unfold stRefB
   rw [List.getElem?_eq_getElem hi] at hp ⊢
   simp only [Bool.and_eq_true] at hp ⊢
   obtain ⟨⟨p1, p2⟩, p3⟩ := hp
   simp only [withinB, Bool.and_eq_true, decide_eq_true_eq] at p1
   refine ⟨⟨⟨⟨?_, ?_⟩, p3⟩, ?_⟩, ?_⟩
   ·simp [withinB]; omega
   ·rw [decide_eq_false e, decide_eq_false (by omega)]; rfl
   ·rw [decide_eq_false e]; rfl
   ·rw [decide_eq_false e, p2]; rfl
 ·rintro ⟨⟨⟨⟨⟨⟨h2, h5⟩, h6⟩, h1⟩, h3⟩, h4⟩, h8⟩
  have hn : 2 ≤ s.stages.length := by simp only [withinB, Bool.and_eq_true, decide_eq_true_eq] at h4; omega
  rw [List.all_eq_true] at h6
  refine ⟨⟨⟨⟨⟨⟨⟨h1, h2⟩, h3⟩, h4⟩, h5⟩, ?_⟩, ?_⟩, h8⟩
  ·rw [List.all_eq_true]
   intro i hi
   rw [List.mem_range] at hi
   have hi2 : i < s.stages.length := by omega
   have hp := h6 i (by rw [List.mem_range]; omega)
   unfold stRefB at hp
   unfold stageB
   rw [List.getElem?_eq_getElem hi2] at hp ⊢
   simp only [Bool.and_eq_true] at hp ⊢
   obtain ⟨⟨⟨⟨p1, p2⟩, p3⟩, p4⟩, p5⟩ := hp
   rw [decide_eq_false (show ¬ i + 1 = s.stages.length by omega)] at p2 p5
   simp only [Bool.false_or] at p5
   refine ⟨⟨?_, p5⟩, p3⟩
   simp only [withinB, Bool.and_eq_true, decide_eq_true_eq] at p1
   by_cases z : s.stages[i].cover = 0
   ·rw [decide_eq_true z] at p2; exact absurd p2 (by decide)
   ·simp [withinB]; omega
  ·have hp := h6 (s.stages.length - 1) (by rw [List.mem_range]; omega)
   unfold stRefB at hp
   rw [List.getElem?_eq_getElem (show s.stages.length - 1 < s.stages.length by omega)] at hp ⊢
   simp only [Bool.and_eq_true] at hp
   obtain ⟨⟨⟨⟨p1, p2⟩, p3⟩, p4⟩, p5⟩ := hp
   rw [decide_eq_true (show s.stages.length - 1 + 1 = s.stages.length by omega)] at p2 p4
   have z1 : s.stages[s.stages.length - 1].cover = 0 := by simpa using p2
   have z2 : s.stages[s.stages.length - 1].minutes = 0 := by simpa using p4
   obtain ⟨x, hx⟩ : ∃ x, x = s.stages[s.stages.length - 1] := ⟨_, rfl⟩
   rw [← hx] at z1 z2 ⊢
   obtain ⟨a, b⟩ := x
   dsimp only at z1 z2
   rw [z1, z2]
end Go.BT
namespace Go.Proofs.YtfhmdpicoccnfaaGreat
set_option linter.unusedSimpArgs false
set_option linter.unusedVariables false
open Go.RowKit Go.BT
theorem RightS_any (s : Site) (u : Value) (w : World) (hu : AV (fun _ => False) w u s) : Calls Tryz.prog 8 #[u] w fun e w' => e = .returned (.bool (siteB s)) ∧ Step w w' := by
 obtain ⟨c0, c1, c2, rfl, h0, h1, h2⟩ := hu.site
 have hm0 := h0.len
 have hm1 := h1.len
 have hm2 := h2.len
 obtain ⟨p0, k0, rfl⟩ := h0.form
 obtain ⟨p1, k1, rfl⟩ := h1.form
 obtain ⟨p2, k2, rfl⟩ := h2.form
 obtain ⟨W0, hW0⟩ : ∃ W, W = w.alloc (.cells #[.slice p0 s.base.length k0, .slice p1 s.levels.length k1, .slice p2 s.stages.length k2, .int .i64 s.openS] 29) := ⟨_, rfl⟩
 have hbx : Bx W0 w.heap.size [.slice p0 s.base.length k0, .slice p1 s.levels.length k1, .slice p2 s.stages.length k2, .int .i64 s.openS] 29 := by subst hW0; exact Bx.new w [_, _, _, _] _
 have hS : Step w W0 := by subst hW0; exact Step.alloc _ _
 have HB := zH hbx
 have HS := zH hS
 have HW := zH hW0
 have HV0 := zH (SL.go h0 hS)
 have HV1 := zH (SL.go h1 hS)
 have HV2 := zH (SL.go h2 hS)
 have HSR := zH (site_ref s)
 have HT := zH (Step.refl W0)
 have b0 := hbx.cell 0
 simp only [zD, zE] at b0
 clear hbx hS hW0 h0 h1 h2 hu
 go_enter Tryz.func8, Tryz.ntmps8
 go_upto_region 2 with (fail)
 rw [← HW.out]
 clear b0
 go_loopw [3] (fun i wr => ∃ k : Nat, k ≤ s.base.length ∧ i = .int .i64 k ∧ (∀ j (hj : j < k) (hl : j < s.base.length), baseB s.base[j] = true) ∧ Step W0 wr) (fun i _ => s.base.length - (intOf i).toNat)
 case atStart => exact ⟨0, Nat.zero_le _, rfl, fun j hj => absurd hj (by omega), HT.out⟩
 case round =>
  obtain ⟨k, hk, rfl, hall, hT⟩ := hrel
  have HA := zH hall
  have HTR := zH hT
  clear hall hT HT
  have b0 := (HB.out.step HTR.out).cell 0
  simp only [List.getElem?_cons_zero] at b0
  by_cases hlt : k < s.base.length
  ·obtain ⟨q1, d1, bb, oo, he, _, _, hp, hc, _⟩ := (SL.go HV0.out HTR.out).vecs
   injection he with he1 _ he3
   subst he1 he3
   obtain rfl := hp (by omega)
   obtain ⟨e1, e2⟩ := hc k hlt
   have hix : (0 : Int) ≤ (k : Int) ∧ (k : Int) < (s.base.length : Int) := by omega
   have HNO := zH (fun (h : baseB s.base[k] = false) => show siteB s = false by
    rw [HSR.out]
    have : s.base.all baseB = false := by rw [List.all_eq_false]; exact ⟨_, List.getElem_mem hlt, by rw [h]; decide⟩
    rw [this]; rfl)
   obtain ⟨x, hx⟩ : ∃ x, x = s.base[k] := ⟨_, rfl⟩
   rw [← hx] at e1 e2 HNO
   have HXX := zH hx
   obtain ⟨xa, xb⟩ := x
   dsimp only at e1 e2
   clear hp hc hx
   go_wp2_with fail
   refine (bigtopref01.In_any _ _ _ _).mono ?_
   rintro e wn ⟨rfl, rfl⟩
   cases q1 : withinB xa (-100) 100 with
   | false =>
    have HR := zH (HNO.out (by unfold baseB; rw [q1]; rfl))
    clear q1
    go_wp2
    go_ret
    exact ⟨by rw [HR.out]; rfl, HS.out.trans HTR.out⟩
   | true =>
   go_wp2_with fail
   refine (bigtopref01.In_any _ _ _ _).mono ?_
   rintro e wn ⟨rfl, rfl⟩
   cases q2 : withinB xb (-100) 100 with
   | false =>
    have HR := zH (HNO.out (by unfold baseB; rw [q1, q2]; rfl))
    clear q1 q2
    go_wp2
    go_ret
    exact ⟨by rw [HR.out]; rfl, HS.out.trans HTR.out⟩
   | true =>
    have HQ := zH (show baseB ⟨xa, xb⟩ = true by unfold baseB; rw [q1, q2]; rfl)
    clear q1 q2
    go_wp2
    go_roundw
    case rel => exact ⟨k + 1, by omega, by go_num, fun j hj hl => if e : j = k then by subst e; rw [← HXX.out]; exact HQ.out else HA.out j (by omega) hl, HTR.out⟩
    case measure => simp [intOf]; omega
  have HBW := zH (show s.base.all baseB = true by
   rw [List.all_eq_true]
   intro f hf
   obtain ⟨j, hj, rfl⟩ := List.getElem_of_mem hf
   exact HA.out j (by omega) hj)
  have b1 := (HB.out.step HTR.out).cell 1
  simp only [zD, zE] at b1
  go_upto_region 7 with (fail)
  clear hlt hk b0 b1 HA
  go_loopw [4] (fun i wr => ∃ k : Nat, k ≤ s.levels.length ∧ i = .int .i64 k ∧ (∀ j (hj : j < k) (hl : j < s.levels.length), levelB s.levels j = true) ∧ Step W0 wr) (fun i _ => s.levels.length - (intOf i).toNat)
  case atStart => exact ⟨0, Nat.zero_le _, rfl, fun j hj => absurd hj (by omega), HTR.out⟩
  case round =>
   obtain ⟨k, hk, rfl, hall, hT⟩ := hrel
   have HA := zH hall
   clear HTR
   have HTR := zH hT
   clear hall hT
   have b1 := (HB.out.step HTR.out).cell 1
   simp only [zD, zE] at b1
   by_cases hlt : k < s.levels.length
   ·obtain ⟨q1, d1, bb, oo, he, _, _, hp, hc, hbl⟩ := (SL.go HV1.out HTR.out).lvls
    injection he with he1 _ he3
    subst he1 he3
    obtain rfl := hp (by omega)
    obtain ⟨e1, e2⟩ := hc k hlt
    have hix : (0 : Int) ≤ (k : Int) ∧ (k : Int) < (s.levels.length : Int) := by omega
    have HPRE := zH (fun (j : Nat) (hj : j + 1 = k) => hc j (by omega))
    have HNO := zH (fun (h : levelB s.levels k = false) => show siteB s = false by
     rw [HSR.out]
     have : (List.range s.levels.length).all (levelB s.levels) = false := by rw [List.all_eq_false]; exact ⟨k, List.mem_range.2 hlt, by rw [h]; decide⟩
     rw [this, Bool.and_false]; rfl)
    have HLB := zH (show levelB s.levels k = (withinB s.levels[k].upto 0 1000 && withinB s.levels[k].push 0 100 && (match k with | 0 => true | j + 1 => match s.levels[j]? with | some y => decide (y.upto < s.levels[k].upto) && decide (y.push ≤ s.levels[k].push) | none => true)) by unfold levelB; rw [List.getElem?_eq_getElem hlt]; cases k <;> rfl)
    obtain ⟨x, hx⟩ : ∃ x, x = s.levels[k] := ⟨_, rfl⟩
    rw [← hx] at e1 e2 HLB
    obtain ⟨xu, xp⟩ := x
    dsimp only at e1 e2 HLB
    obtain ⟨W3, hW3⟩ : ∃ W, W = wr.alloc (.cells #[.int .i64 xu, .int .i64 xp] 58) := ⟨_, rfl⟩
    have HB3 := zH (show Bx W3 wr.heap.size [.int .i64 xu, .int .i64 xp] 58 by subst hW3; exact Bx.new wr [_, _] _)
    have HS3 := zH (show Step wr W3 by subst hW3; exact Step.alloc _ _)
    have HW3 := zH hW3
    have HT := zH (Step.refl W3)
    have HBC := zH ((HB.out.step (HTR.out.trans HS3.out)).cell 1)
    simp only [zD, zE] at HBC
    clear hp hc hbl hx hW3
    go_upto_region 10 with (fail)
    rw [← HW3.out]
    clear e1 e2 b1
    refine wp_region_seq (kdOf [2, 7] []) (0 :: 1 :: 3 :: 7 :: 15 :: 31 :: 63 :: 127 :: 255 :: 511 :: 1023 :: 2047 :: 4095 :: 8191 :: 16383 :: 32767 :: 16383 :: 81919 :: 16383 :: 278527 :: 999423 :: 2047999 :: 4145151 :: 8388607 :: 16777215 :: 33554431 :: 67108863 :: 33554431 :: 167772159 :: 33554431 :: 570425343 :: 2046820351 :: 4194303999 :: 8489271295 :: 17179869183 :: 34359738367 :: 68719476735 :: 137438953471 :: []) (0 :: 1 :: 2 :: 3 :: 4 :: 5 :: 6 :: 7 :: 8 :: 9 :: 10 :: 11 :: 12 :: 13 :: 14 :: 15 :: 16 :: 17 :: 18 :: 19 :: 20 :: 21 :: 22 :: 23 :: 24 :: 25 :: 26 :: 27 :: 28 :: 29 :: 30 :: 31 :: 32 :: 33 :: 34 :: 35 :: 36 :: 37 :: []) [] (by kernel_rfl) (by kernel_rfl) (fun i T z hi hk => by simp [kdOf] at hk <;> (try (split at hk <;> cases hk))) ?_
    intro Wx hWx
    have HTx := zH (HT.out.trans hWx)
    clear hWx HT
    have HT := HTx
    clear HTx
    have x0 := (HB3.out.step HT.out).cell 0
    have x1 := (HB3.out.step HT.out).cell 1
    have b1 := HT.out.kc HBC.out
    simp only [zD, zE] at x0 x1
    repeat ((first | (refine run_off rfl rfl (by rfl) ?_) | (refine run_chain_off rfl rfl (by rfl) (K0_mono _) ?_) | ((refine run_want rfl rfl (by rfl) ⟨?_, fun W hW => ?_, ?_⟩; rotate_left; (· (have d0 := hW.kc x0; have d1 := hW.kc x1; have d2 := hW.kc b1; go_simp; (try with_reducible rfl)))))); (try simp only [Act.put, zA, zB, zC]))
    clear x0 x1 b1
    refine run_chain rfl rfl (by rfl) (fun Wi hWi K' hK => ?_)
    have HTi := zH (HT.out.trans hWi)
    clear hWi HT
    go_simp
    refine (bigtopref01.In_any _ _ _ _).mono ?_
    rintro e wn ⟨rfl, rfl⟩
    have HT := HTi
    clear HTi
    cases w1 : withinB xu 0 1000 with
    | false =>
     have HR := zH (HNO.out (by rw [HLB.out, w1]; rfl))
     clear w1
     refine hK _ _ (StepX.refl _ _) ?_
     (try simp only [Act.put, zA, zB, zC])
     have x0 := (HB3.out.step HT.out).cell 0
     have x1 := (HB3.out.step HT.out).cell 1
     have b1 := HT.out.kc HBC.out
     simp only [zD, zE] at x0 x1
     repeat ((first | (refine run_off rfl rfl (by rfl) ?_) | (refine run_chain_off rfl rfl (by rfl) (K0_mono _) ?_) | ((refine run_want rfl rfl (by rfl) ⟨?_, fun W hW => ?_, ?_⟩; rotate_left; (· (have d0 := hW.kc x0; have d1 := hW.kc x1; have d2 := hW.kc b1; go_simp; (try with_reducible rfl)))))); (try simp only [Act.put, zA, zB, zC]))
     clear x0 x1 b1
     refine run_end (L := []) rfl (fun W6 hW6 => ?_)
     have HT6 := zH (HT.out.trans hW6)
     clear hW6 HT
     have HT := HT6
     clear HT6
     go_wp2
     go_ret
     exact ⟨by rw [HR.out]; rfl, HS.out.trans (HTR.out.trans (HS3.out.trans HT.out))⟩
    | true =>
    refine hK _ _ (StepX.refl _ _) ?_
    (try simp only [Act.put, zA, zB, zC])
    have x0 := (HB3.out.step HT.out).cell 0
    have x1 := (HB3.out.step HT.out).cell 1
    have b1 := HT.out.kc HBC.out
    simp only [zD, zE] at x0 x1
    repeat ((first | (refine run_off rfl rfl (by rfl) ?_) | (refine run_chain_off rfl rfl (by rfl) (K0_mono _) ?_) | ((refine run_want rfl rfl (by rfl) ⟨?_, fun W hW => ?_, ?_⟩; rotate_left; (· (have d0 := hW.kc x0; have d1 := hW.kc x1; have d2 := hW.kc b1; go_simp; (try with_reducible rfl)))))); (try simp only [Act.put, zA, zB, zC]))
    clear x0 x1 b1
    refine run_chain rfl rfl (by rfl) (fun Wi hWi K' hK => ?_)
    have HTi := zH (HT.out.trans hWi)
    clear hWi HT
    go_simp
    refine (bigtopref01.In_any _ _ _ _).mono ?_
    rintro e wn ⟨rfl, rfl⟩
    have HT := HTi
    clear HTi
    cases w2 : withinB xp 0 100 with
    | false =>
     have HR := zH (HNO.out (by rw [HLB.out, w1, w2]; rfl))
     clear w1 w2
     refine hK _ _ (StepX.refl _ _) ?_
     (try simp only [Act.put, zA, zB, zC])
     have x0 := (HB3.out.step HT.out).cell 0
     have x1 := (HB3.out.step HT.out).cell 1
     have b1 := HT.out.kc HBC.out
     simp only [zD, zE] at x0 x1
     repeat ((first | (refine run_off rfl rfl (by rfl) ?_) | (refine run_chain_off rfl rfl (by rfl) (K0_mono _) ?_) | ((refine run_want rfl rfl (by rfl) ⟨?_, fun W hW => ?_, ?_⟩; rotate_left; (· (have d0 := hW.kc x0; have d1 := hW.kc x1; have d2 := hW.kc b1; go_simp; (try with_reducible rfl)))))); (try simp only [Act.put, zA, zB, zC]))
     clear x0 x1 b1
     refine run_end (L := []) rfl (fun W6 hW6 => ?_)
     have HT6 := zH (HT.out.trans hW6)
     clear hW6 HT
     have HT := HT6
     clear HT6
     go_wp2
     go_ret
     exact ⟨by rw [HR.out]; rfl, HS.out.trans (HTR.out.trans (HS3.out.trans HT.out))⟩
    | true =>
    refine hK _ _ (StepX.refl _ _) ?_
    (try simp only [Act.put, zA, zB, zC])
    cases k with
    | zero =>
     have d0 : decide (0 < ((0 : Nat) : Int)) = false := by decide
     have HLV := zH (show levelB s.levels (1 - 1) = true by rw [HLB.out, w1, w2]; rfl)
     clear w1 w2
     have x0 := (HB3.out.step HT.out).cell 0
     have x1 := (HB3.out.step HT.out).cell 1
     have b1 := HT.out.kc HBC.out
     simp only [zD, zE] at x0 x1
     repeat ((first | (refine run_off rfl rfl (by rfl) ?_) | (refine run_chain_off rfl rfl (by rfl) (K0_mono _) ?_) | ((refine run_want rfl rfl (by rfl) ⟨?_, fun W hW => ?_, ?_⟩; rotate_left; (· (have d0 := hW.kc x0; have d1 := hW.kc x1; have d2 := hW.kc b1; go_simp; (try with_reducible rfl)))))); (try simp only [Act.put, zA, zB, zC]))
     clear x0 x1 b1
     refine run_end (L := []) rfl (fun W6 hW6 => ?_)
     have HT6 := zH (HT.out.trans hW6)
     clear hW6 HT
     have HT := HT6
     clear HT6
     go_wp2
     go_roundw
     case rel => exact ⟨1, by omega, by go_num, fun i hi hl => if e : i + 1 = 1 then by (obtain rfl : i = 1 - 1 := by omega); exact HLV.out else HA.out i (by omega) hl, HTR.out.trans (HS3.out.trans HT.out)⟩
     case measure => simp [intOf]; omega
    | succ j =>
     have hpre := HPRE.out j rfl
     obtain ⟨g1, g2⟩ := hpre
     have hjx : (0 : Int) ≤ (j : Int) ∧ (j : Int) < (s.levels.length : Int) := by omega
     have hwj : IntKind.i64.wrap (j : Int) = (j : Int) := by rw [IntKind.wrap_i64]; omega
     have hd0 : decide ((0 : Int) < ((j + 1 : Nat) : Int)) = true := decide_eq_true (by omega)
     have HLC := zH (show levelB s.levels (j + 1) = (decide (s.levels[j].upto < xu) && decide (s.levels[j].push ≤ xp)) by
      rw [HLB.out, w1, w2]
      simp only [List.getElem?_eq_getElem (show j < s.levels.length by omega), Bool.true_and])
     obtain ⟨y, hy⟩ : ∃ y, y = s.levels[j] := ⟨_, rfl⟩
     rw [← hy] at g1 g2 HLC
     obtain ⟨yu, yp⟩ := y
     dsimp only at g1 g2 HLC
     have g1 := HT.out.kc (HS3.out.kc g1)
     have g2 := HT.out.kc (HS3.out.kc g2)
     clear hy w1 w2
     by_cases c1 : xu ≤ yu
     ·have d1 : decide (xu ≤ yu) = true := decide_eq_true c1
      have HR := zH (HNO.out (by rw [HLC.out, decide_eq_false (by omega)]; rfl))
      clear c1
      have x0 := (HB3.out.step HT.out).cell 0
      have x1 := (HB3.out.step HT.out).cell 1
      have b1 := HT.out.kc HBC.out
      simp only [zD, zE] at x0 x1
      repeat ((first | (refine run_off rfl rfl (by rfl) ?_) | (refine run_chain_off rfl rfl (by rfl) (K0_mono _) ?_) | ((refine run_want rfl rfl (by rfl) ⟨?_, fun W hW => ?_, ?_⟩; rotate_left; (· (have d0 := hW.kc x0; have d1 := hW.kc x1; have d2 := hW.kc b1; have d3 := hW.kc g1; have d4 := hW.kc g2; go_simp; (try with_reducible rfl)))))); (try simp only [Act.put, zA, zB, zC]))
      clear x0 x1 b1
      refine run_end (L := []) rfl (fun W6 hW6 => ?_)
      have HT6 := zH (HT.out.trans hW6)
      clear hW6 HT
      have HT := HT6
      clear HT6
      go_wp2
      go_ret
      exact ⟨by rw [HR.out]; rfl, HS.out.trans (HTR.out.trans (HS3.out.trans HT.out))⟩
     have d1 : decide (xu ≤ yu) = false := decide_eq_false c1
     by_cases c2 : xp < yp
     ·have d2 : decide (xp < yp) = true := decide_eq_true c2
      have HR := zH (HNO.out (by rw [HLC.out, decide_eq_true (show yu < xu by omega), decide_eq_false (by omega)]; rfl))
      clear c1 c2
      have x0 := (HB3.out.step HT.out).cell 0
      have x1 := (HB3.out.step HT.out).cell 1
      have b1 := HT.out.kc HBC.out
      simp only [zD, zE] at x0 x1
      repeat ((first | (refine run_off rfl rfl (by rfl) ?_) | (refine run_chain_off rfl rfl (by rfl) (K0_mono _) ?_) | ((refine run_want rfl rfl (by rfl) ⟨?_, fun W hW => ?_, ?_⟩; rotate_left; (· (have d0 := hW.kc x0; have d1 := hW.kc x1; have d2 := hW.kc b1; have d3 := hW.kc g1; have d4 := hW.kc g2; go_simp; (try with_reducible rfl)))))); (try simp only [Act.put, zA, zB, zC]))
      clear x0 x1 b1
      refine run_end (L := []) rfl (fun W6 hW6 => ?_)
      have HT6 := zH (HT.out.trans hW6)
      clear hW6 HT
      have HT := HT6
      clear HT6
      go_wp2
      go_ret
      exact ⟨by rw [HR.out]; rfl, HS.out.trans (HTR.out.trans (HS3.out.trans HT.out))⟩
     have d2 : decide (xp < yp) = false := decide_eq_false c2
     have HLV := zH (show levelB s.levels (j + 1 + 1 - 1) = true by rw [Nat.add_sub_cancel, HLC.out, decide_eq_true (show yu < xu by omega), decide_eq_true (show yp ≤ xp by omega)]; rfl)
     clear c1 c2
     have x0 := (HB3.out.step HT.out).cell 0
     have x1 := (HB3.out.step HT.out).cell 1
     have b1 := HT.out.kc HBC.out
     simp only [zD, zE] at x0 x1
     repeat ((first | (refine run_off rfl rfl (by rfl) ?_) | (refine run_chain_off rfl rfl (by rfl) (K0_mono _) ?_) | ((refine run_want rfl rfl (by rfl) ⟨?_, fun W hW => ?_, ?_⟩; rotate_left; (· (have d0 := hW.kc x0; have d1 := hW.kc x1; have d2 := hW.kc b1; have d3 := hW.kc g1; have d4 := hW.kc g2; go_simp; (try with_reducible rfl)))))); (try simp only [Act.put, zA, zB, zC]))
     clear x0 x1 b1
     refine run_end (L := []) rfl (fun W6 hW6 => ?_)
     have HT6 := zH (HT.out.trans hW6)
     clear hW6 HT
     have HT := HT6
     clear HT6
     go_wp2
     go_roundw
     case rel => exact ⟨j + 1 + 1, by omega, by go_num, fun i hi hl => if e : i + 1 = j + 1 + 1 then by (obtain rfl : i = j + 1 + 1 - 1 := by omega); exact HLV.out else HA.out i (by omega) hl, HTR.out.trans (HS3.out.trans HT.out)⟩
     case measure => simp [intOf]; omega
   have HLW := zH (show (List.range s.levels.length).all (levelB s.levels) = true by
    rw [List.all_eq_true]
    intro i hi
    rw [List.mem_range] at hi
    exact HA.out i (by omega) hi)
   have b2 := (HB.out.step HTR.out).cell 2
   simp only [zD, zE] at b2
   go_upto_region 13 with (fail)
   clear hlt hk b1 b2 HA
   go_loopw [6] (fun i wr => ∃ k : Nat, k ≤ s.stages.length ∧ i = .int .i64 k ∧ (∀ j (hj : j < k) (hl : j < s.stages.length), stRefB s.stages j = true) ∧ Step W0 wr) (fun i _ => s.stages.length - (intOf i).toNat)
   case atStart => exact ⟨0, Nat.zero_le _, rfl, fun j hj => absurd hj (by omega), HTR.out⟩
   case round =>
    obtain ⟨k, hk, rfl, hall, hT⟩ := hrel
    have HA := zH hall
    clear HTR
    have HTR := zH hT
    clear hall hT
    have b2 := (HB.out.step HTR.out).cell 2
    simp only [zD, zE] at b2
    by_cases hlt : k < s.stages.length
    ·obtain ⟨q1, d1, bb, oo, he, _, _, hp, hc, hbl⟩ := (SL.go HV2.out HTR.out).stgs
     injection he with he1 _ he3
     subst he1 he3
     obtain rfl := hp (by omega)
     obtain ⟨e1, e2⟩ := hc k hlt
     have hix : (0 : Int) ≤ (k : Int) ∧ (k : Int) < (s.stages.length : Int) := by omega
     have hwn : IntKind.i64.wrap ((s.stages.length : Int) - 1) = (s.stages.length : Int) - 1 := by rw [IntKind.wrap_i64]; omega
     have HPRE := zH (fun (j : Nat) (hj : j + 1 = k) => hc j (by omega))
     have HNO := zH (fun (h : stRefB s.stages k = false) => show siteB s = false by
      rw [HSR.out]
      have : (List.range s.stages.length).all (stRefB s.stages) = false := by rw [List.all_eq_false]; exact ⟨k, List.mem_range.2 hlt, by rw [h]; decide⟩
      rw [this, Bool.and_false]; rfl)
     have HLB := zH (show stRefB s.stages k = (withinB s.stages[k].cover 0 100 && (decide (k + 1 = s.stages.length) == decide (s.stages[k].cover = 0)) && (match k with | 0 => true | j + 1 => match s.stages[j]? with | some y => decide (s.stages[k].cover < y.cover) | none => true) && (!decide (k + 1 = s.stages.length) || decide (s.stages[k].minutes = 0)) && (decide (k + 1 = s.stages.length) || withinB s.stages[k].minutes 1 240)) by unfold stRefB; rw [List.getElem?_eq_getElem hlt])
     obtain ⟨x, hx⟩ : ∃ x, x = s.stages[k] := ⟨_, rfl⟩
     rw [← hx] at e1 e2 HLB
     obtain ⟨xc, xm⟩ := x
     dsimp only at e1 e2 HLB
     obtain ⟨W3, hW3⟩ : ∃ W, W = wr.alloc (.cells #[.int .i64 xc, .int .i64 xm] 66) := ⟨_, rfl⟩
     have HB3 := zH (show Bx W3 wr.heap.size [.int .i64 xc, .int .i64 xm] 66 by subst hW3; exact Bx.new wr [_, _] _)
     have HS3 := zH (show Step wr W3 by subst hW3; exact Step.alloc _ _)
     have HW3 := zH hW3
     have HT := zH (Step.refl W3)
     have HBC := zH ((HB.out.step (HTR.out.trans HS3.out)).cell 2)
     simp only [zD, zE] at HBC
     clear hp hc hbl hx hW3
     go_upto_region 16 with (fail)
     rw [← HW3.out]
     clear e1 e2 b2
     obtain ⟨c8, hl⟩ : ∃ c : Bool, ((k : Int) == (s.stages.length : Int) - 1) = c := ⟨_, rfl⟩
     have b2 := HBC.out
     go_upto_region 17 with (fail)
     have HL8 := zH hl
     clear b2 hl
     refine wp_region_seq (kdOf [2, 41] []) (0 :: 1 :: 3 :: 7 :: 15 :: 31 :: 31 :: 95 :: 223 :: 511 :: 1023 :: 2047 :: 4095 :: 8191 :: 16383 :: 32767 :: 65535 :: 32767 :: 163839 :: 32767 :: 557055 :: 1998847 :: 4095999 :: 8290303 :: 16777215 :: 33554431 :: 67108863 :: 134217727 :: 268435455 :: 536870911 :: 1073741823 :: 2147483647 :: 4294967295 :: 8589934591 :: 17179869183 :: 34359738367 :: 68719476735 :: 137438953471 :: 274877906943 :: 549755813887 :: 1099511627775 :: 2199023255551 :: 4398046511103 :: 8796093022207 :: 17592186044415 :: []) (0 :: 1 :: 2 :: 3 :: 4 :: 5 :: 6 :: 7 :: 8 :: 9 :: 10 :: 11 :: 12 :: 13 :: 14 :: 15 :: 16 :: 17 :: 18 :: 19 :: 20 :: 21 :: 22 :: 23 :: 24 :: 25 :: 26 :: 27 :: 28 :: 29 :: 30 :: 31 :: 32 :: 33 :: 34 :: 35 :: 36 :: 37 :: 38 :: 39 :: 40 :: 41 :: 42 :: 43 :: 44 :: []) [] (by kernel_rfl) (by kernel_rfl) (fun i T z hi hk => by simp [kdOf] at hk <;> (try (split at hk <;> cases hk))) ?_
     intro Wx hWx
     have HTx := zH (HT.out.trans hWx)
     clear hWx HT
     have HT := HTx
     clear HTx
     have x0 := (HB3.out.step HT.out).cell 0
     have x1 := (HB3.out.step HT.out).cell 1
     have b1 := HT.out.kc HBC.out
     simp only [zD, zE] at x0 x1
     repeat ((first | (refine run_off rfl rfl (by rfl) ?_) | (refine run_chain_off rfl rfl (by rfl) (K0_mono _) ?_) | ((refine run_want rfl rfl (by rfl) ⟨?_, fun W hW => ?_, ?_⟩; rotate_left; (· (have d0 := hW.kc x0; have d1 := hW.kc x1; have d2 := hW.kc b1; go_simp; (try with_reducible rfl)))))); (try simp only [Act.put, zA, zB, zC]))
     clear x0 x1 b1
     refine run_chain rfl rfl (by rfl) (fun Wi hWi K' hK => ?_)
     have HTi := zH (HT.out.trans hWi)
     clear hWi HT
     go_simp
     refine (bigtopref01.In_any _ _ _ _).mono ?_
     rintro e wn ⟨rfl, rfl⟩
     have HT := HTi
     clear HTi
     cases w1 : withinB xc 0 100 with
     | false =>
      have HR := zH (HNO.out (by rw [HLB.out, w1]; rfl))
      clear w1
      refine hK _ _ (StepX.refl _ _) ?_
      (try simp only [Act.put, zA, zB, zC])
      have x0 := (HB3.out.step HT.out).cell 0
      have x1 := (HB3.out.step HT.out).cell 1
      have b1 := HT.out.kc HBC.out
      simp only [zD, zE] at x0 x1
      repeat ((first | (refine run_off rfl rfl (by rfl) ?_) | (refine run_chain_off rfl rfl (by rfl) (K0_mono _) ?_) | ((refine run_want rfl rfl (by rfl) ⟨?_, fun W hW => ?_, ?_⟩; rotate_left; (· (have d0 := hW.kc x0; have d1 := hW.kc x1; have d2 := hW.kc b1; go_simp; (try with_reducible rfl)))))); (try simp only [Act.put, zA, zB, zC]))
      clear x0 x1 b1
      refine run_end (L := []) rfl (fun W6 hW6 => ?_)
      have HT6 := zH (HT.out.trans hW6)
      clear hW6 HT
      have HT := HT6
      clear HT6
      go_wp2
      go_ret
      exact ⟨by rw [HR.out]; rfl, HS.out.trans (HTR.out.trans (HS3.out.trans HT.out))⟩
     | true =>
     refine hK _ _ (StepX.refl _ _) ?_
     (try simp only [Act.put, zA, zB, zC])
     cases k with
     | zero =>
      have d0 : decide (0 < ((0 : Nat) : Int)) = false := by decide
      have HF := zH (show stRefB s.stages 0 = ((decide (0 + 1 = s.stages.length) == decide (xc = 0)) && true && (!decide (0 + 1 = s.stages.length) || decide (xm = 0)) && (decide (0 + 1 = s.stages.length) || withinB xm 1 240)) by rw [HLB.out, w1]; rfl)
      by_cases L : 0 + 1 = s.stages.length
      ·have e8 : c8 = true := by rw [← HL8.out]; simp; omega
       subst e8
       by_cases z : xc = 0
       rotate_left
       ·have hz : (xc == 0) = false := by simpa using z
        have HR := zH (HNO.out (by rw [HF.out, decide_eq_true L, decide_eq_false z]; rfl))
        clear z L
        have x0 := (HB3.out.step HT.out).cell 0
        have x1 := (HB3.out.step HT.out).cell 1
        have b1 := HT.out.kc HBC.out
        simp only [zD, zE] at x0 x1
        repeat ((first | (refine run_off rfl rfl (by rfl) ?_) | (refine run_chain_off rfl rfl (by rfl) (K0_mono _) ?_) | ((refine run_want rfl rfl (by rfl) ⟨?_, fun W hW => ?_, ?_⟩; rotate_left; (· (have d0 := hW.kc x0; have d1 := hW.kc x1; have d2 := hW.kc b1; go_simp; (try with_reducible rfl)))))); (try simp only [Act.put, zA, zB, zC]))
        clear x0 x1 b1
        refine run_end (L := []) rfl (fun W6 hW6 => ?_)
        have HT6 := zH (HT.out.trans hW6)
        clear hW6 HT
        have HT := HT6
        clear HT6
        go_wp2
        go_ret
        exact ⟨by rw [HR.out]; rfl, HS.out.trans (HTR.out.trans (HS3.out.trans HT.out))⟩
       have hz : (xc == 0) = true := by simpa using z
       by_cases m : xm = 0
       rotate_left
       ·have hmm : (xm != 0) = true := by simpa using m
        have HR := zH (HNO.out (by rw [HF.out, decide_eq_true L, decide_eq_true z, decide_eq_false m]; rfl))
        clear z L m
        have x0 := (HB3.out.step HT.out).cell 0
        have x1 := (HB3.out.step HT.out).cell 1
        have b1 := HT.out.kc HBC.out
        simp only [zD, zE] at x0 x1
        repeat ((first | (refine run_off rfl rfl (by rfl) ?_) | (refine run_chain_off rfl rfl (by rfl) (K0_mono _) ?_) | ((refine run_want rfl rfl (by rfl) ⟨?_, fun W hW => ?_, ?_⟩; rotate_left; (· (have d0 := hW.kc x0; have d1 := hW.kc x1; have d2 := hW.kc b1; go_simp; (try with_reducible rfl)))))); (try simp only [Act.put, zA, zB, zC]))
        clear x0 x1 b1
        refine run_end (L := []) rfl (fun W6 hW6 => ?_)
        have HT6 := zH (HT.out.trans hW6)
        clear hW6 HT
        have HT := HT6
        clear HT6
        go_wp2
        go_ret
        exact ⟨by rw [HR.out]; rfl, HS.out.trans (HTR.out.trans (HS3.out.trans HT.out))⟩
       have hmm : (xm != 0) = false := by simpa using m
       have HLV := zH (show stRefB s.stages (1 - 1) = true by (show stRefB s.stages (0) = true); rw [HF.out, decide_eq_true L, decide_eq_true z, decide_eq_true m]; rfl)
       clear z L m
       have x0 := (HB3.out.step HT.out).cell 0
       have x1 := (HB3.out.step HT.out).cell 1
       have b1 := HT.out.kc HBC.out
       simp only [zD, zE] at x0 x1
       repeat ((first | (refine run_off rfl rfl (by rfl) ?_) | (refine run_chain_off rfl rfl (by rfl) (K0_mono _) ?_) | ((refine run_want rfl rfl (by rfl) ⟨?_, fun W hW => ?_, ?_⟩; rotate_left; (· (have d0 := hW.kc x0; have d1 := hW.kc x1; have d2 := hW.kc b1; go_simp; (try with_reducible rfl)))))); (try simp only [Act.put, zA, zB, zC]))
       clear x0 x1 b1
       refine run_end (L := []) rfl (fun W6 hW6 => ?_)
       have HT6 := zH (HT.out.trans hW6)
       clear hW6 HT
       have HT := HT6
       clear HT6
       go_wp2
       go_roundw
       case rel => exact ⟨1, by omega, by go_num, fun i hi hl => if e : i + 1 = 1 then by (obtain rfl : i = 1 - 1 := by omega); exact HLV.out else HA.out i (by omega) hl, HTR.out.trans (HS3.out.trans HT.out)⟩
       case measure => simp [intOf]; omega
      have e8 : c8 = false := by rw [← HL8.out]; simp; omega
      subst e8
      by_cases z : xc = 0
      ·have hz : (xc == 0) = true := by simpa using z
       have HR := zH (HNO.out (by rw [HF.out, decide_eq_false L, decide_eq_true z]; rfl))
       clear z L
       have x0 := (HB3.out.step HT.out).cell 0
       have x1 := (HB3.out.step HT.out).cell 1
       have b1 := HT.out.kc HBC.out
       simp only [zD, zE] at x0 x1
       repeat ((first | (refine run_off rfl rfl (by rfl) ?_) | (refine run_chain_off rfl rfl (by rfl) (K0_mono _) ?_) | ((refine run_want rfl rfl (by rfl) ⟨?_, fun W hW => ?_, ?_⟩; rotate_left; (· (have d0 := hW.kc x0; have d1 := hW.kc x1; have d2 := hW.kc b1; go_simp; (try with_reducible rfl)))))); (try simp only [Act.put, zA, zB, zC]))
       clear x0 x1 b1
       refine run_end (L := []) rfl (fun W6 hW6 => ?_)
       have HT6 := zH (HT.out.trans hW6)
       clear hW6 HT
       have HT := HT6
       clear HT6
       go_wp2
       go_ret
       exact ⟨by rw [HR.out]; rfl, HS.out.trans (HTR.out.trans (HS3.out.trans HT.out))⟩
      have hz : (xc == 0) = false := by simpa using z
      cases w3 : withinB xm 1 240 with
      | false =>
       have HR := zH (HNO.out (by rw [HF.out, decide_eq_false L, decide_eq_false z, w3]; rfl))
       clear z L
       have x0 := (HB3.out.step HT.out).cell 0
       have x1 := (HB3.out.step HT.out).cell 1
       have b1 := HT.out.kc HBC.out
       simp only [zD, zE] at x0 x1
       repeat ((first | (refine run_off rfl rfl (by rfl) ?_) | (refine run_chain_off rfl rfl (by rfl) (K0_mono _) ?_) | ((refine run_want rfl rfl (by rfl) ⟨?_, fun W hW => ?_, ?_⟩; rotate_left; (· (have d0 := hW.kc x0; have d1 := hW.kc x1; have d2 := hW.kc b1; go_simp; (try with_reducible rfl)))))); (try simp only [Act.put, zA, zB, zC]))
       clear x0 x1 b1
       refine run_chain rfl rfl (by rfl) (fun Wi hWi K' hK => ?_)
       have HTi := zH (HT.out.trans hWi)
       clear hWi HT
       go_simp
       refine (bigtopref01.In_any _ _ _ _).mono ?_
       rintro e wn ⟨rfl, rfl⟩
       have HT := HTi
       clear HTi
       rw [w3]
       refine hK _ _ (StepX.refl _ _) ?_
       (try simp only [Act.put, zA, zB, zC])
       have x0 := (HB3.out.step HT.out).cell 0
       have x1 := (HB3.out.step HT.out).cell 1
       have b1 := HT.out.kc HBC.out
       simp only [zD, zE] at x0 x1
       repeat ((first | (refine run_off rfl rfl (by rfl) ?_) | (refine run_chain_off rfl rfl (by rfl) (K0_mono _) ?_) | ((refine run_want rfl rfl (by rfl) ⟨?_, fun W hW => ?_, ?_⟩; rotate_left; (· (have d0 := hW.kc x0; have d1 := hW.kc x1; have d2 := hW.kc b1; go_simp; (try with_reducible rfl)))))); (try simp only [Act.put, zA, zB, zC]))
       clear x0 x1 b1
       refine run_end (L := []) rfl (fun W6 hW6 => ?_)
       have HT6 := zH (HT.out.trans hW6)
       clear hW6 HT
       have HT := HT6
       clear HT6
       go_wp2
       go_ret
       exact ⟨by rw [HR.out]; rfl, HS.out.trans (HTR.out.trans (HS3.out.trans HT.out))⟩
      | true =>
       have HLV := zH (show stRefB s.stages (1 - 1) = true by (show stRefB s.stages (0) = true); rw [HF.out, decide_eq_false L, decide_eq_false z, w3]; rfl)
       clear z L
       have x0 := (HB3.out.step HT.out).cell 0
       have x1 := (HB3.out.step HT.out).cell 1
       have b1 := HT.out.kc HBC.out
       simp only [zD, zE] at x0 x1
       repeat ((first | (refine run_off rfl rfl (by rfl) ?_) | (refine run_chain_off rfl rfl (by rfl) (K0_mono _) ?_) | ((refine run_want rfl rfl (by rfl) ⟨?_, fun W hW => ?_, ?_⟩; rotate_left; (· (have d0 := hW.kc x0; have d1 := hW.kc x1; have d2 := hW.kc b1; go_simp; (try with_reducible rfl)))))); (try simp only [Act.put, zA, zB, zC]))
       clear x0 x1 b1
       refine run_chain rfl rfl (by rfl) (fun Wi hWi K' hK => ?_)
       have HTi := zH (HT.out.trans hWi)
       clear hWi HT
       go_simp
       refine (bigtopref01.In_any _ _ _ _).mono ?_
       rintro e wn ⟨rfl, rfl⟩
       have HT := HTi
       clear HTi
       rw [w3]
       refine hK _ _ (StepX.refl _ _) ?_
       (try simp only [Act.put, zA, zB, zC])
       have x0 := (HB3.out.step HT.out).cell 0
       have x1 := (HB3.out.step HT.out).cell 1
       have b1 := HT.out.kc HBC.out
       simp only [zD, zE] at x0 x1
       repeat ((first | (refine run_off rfl rfl (by rfl) ?_) | (refine run_chain_off rfl rfl (by rfl) (K0_mono _) ?_) | ((refine run_want rfl rfl (by rfl) ⟨?_, fun W hW => ?_, ?_⟩; rotate_left; (· (have d0 := hW.kc x0; have d1 := hW.kc x1; have d2 := hW.kc b1; go_simp; (try with_reducible rfl)))))); (try simp only [Act.put, zA, zB, zC]))
       clear x0 x1 b1
       refine run_end (L := []) rfl (fun W6 hW6 => ?_)
       have HT6 := zH (HT.out.trans hW6)
       clear hW6 HT
       have HT := HT6
       clear HT6
       go_wp2
       go_roundw
       case rel => exact ⟨1, by omega, by go_num, fun i hi hl => if e : i + 1 = 1 then by (obtain rfl : i = 1 - 1 := by omega); exact HLV.out else HA.out i (by omega) hl, HTR.out.trans (HS3.out.trans HT.out)⟩
       case measure => simp [intOf]; omega
     | succ j =>
      have hpre := HPRE.out j rfl
      obtain ⟨g1, g2⟩ := hpre
      have hjx : (0 : Int) ≤ (j : Int) ∧ (j : Int) < (s.stages.length : Int) := by omega
      have hwj : IntKind.i64.wrap (j : Int) = (j : Int) := by rw [IntKind.wrap_i64]; omega
      have hd0 : decide ((0 : Int) < ((j + 1 : Nat) : Int)) = true := decide_eq_true (by omega)
      have HLC := zH (show stRefB s.stages (j + 1) = (withinB xc 0 100 && (decide (j + 1 + 1 = s.stages.length) == decide (xc = 0)) && decide (xc < s.stages[j].cover) && (!decide (j + 1 + 1 = s.stages.length) || decide (xm = 0)) && (decide (j + 1 + 1 = s.stages.length) || withinB xm 1 240)) by
       rw [HLB.out]
       simp only [List.getElem?_eq_getElem (show j < s.stages.length by omega)])
      obtain ⟨y, hy⟩ : ∃ y, y = s.stages[j] := ⟨_, rfl⟩
      rw [← hy] at g1 g2 HLC
      obtain ⟨yu, yp⟩ := y
      dsimp only at g1 g2 HLC
      have HG := zH (And.intro (HS3.out.kc g1) (HS3.out.kc g2))
      clear g1 g2 hy
      have HF := zH (show stRefB s.stages (j + 1) = ((decide (j + 1 + 1 = s.stages.length) == decide (xc = 0)) && decide (xc < yu) && (!decide (j + 1 + 1 = s.stages.length) || decide (xm = 0)) && (decide (j + 1 + 1 = s.stages.length) || withinB xm 1 240)) by rw [HLC.out, w1]; rfl)
      by_cases L : j + 1 + 1 = s.stages.length
      ·have e8 : c8 = true := by rw [← HL8.out]; simp; omega
       subst e8
       by_cases z : xc = 0
       rotate_left
       ·have hz : (xc == 0) = false := by simpa using z
        have HR := zH (HNO.out (by rw [HF.out, decide_eq_true L, decide_eq_false z]; rfl))
        clear z L
        have g1 := HT.out.kc HG.out.1
        have g2 := HT.out.kc HG.out.2
        have x0 := (HB3.out.step HT.out).cell 0
        have x1 := (HB3.out.step HT.out).cell 1
        have b1 := HT.out.kc HBC.out
        simp only [zD, zE] at x0 x1
        repeat ((first | (refine run_off rfl rfl (by rfl) ?_) | (refine run_chain_off rfl rfl (by rfl) (K0_mono _) ?_) | ((refine run_want rfl rfl (by rfl) ⟨?_, fun W hW => ?_, ?_⟩; rotate_left; (· (have d0 := hW.kc x0; have d1 := hW.kc x1; have d2 := hW.kc b1; have d3 := hW.kc g1; have d4 := hW.kc g2; go_simp; (try with_reducible rfl)))))); (try simp only [Act.put, zA, zB, zC]))
        clear x0 x1 b1
        clear g1 g2
        refine run_end (L := []) rfl (fun W6 hW6 => ?_)
        have HT6 := zH (HT.out.trans hW6)
        clear hW6 HT
        have HT := HT6
        clear HT6
        go_wp2
        go_ret
        exact ⟨by rw [HR.out]; rfl, HS.out.trans (HTR.out.trans (HS3.out.trans HT.out))⟩
       have hz : (xc == 0) = true := by simpa using z
       by_cases c : yu ≤ xc
       ·have hc : decide (yu ≤ xc) = true := decide_eq_true c
        have HR := zH (HNO.out (by rw [HF.out, decide_eq_true L, decide_eq_true z, decide_eq_false (show ¬ xc < yu by omega)]; rfl))
        clear z L c
        have g1 := HT.out.kc HG.out.1
        have g2 := HT.out.kc HG.out.2
        have x0 := (HB3.out.step HT.out).cell 0
        have x1 := (HB3.out.step HT.out).cell 1
        have b1 := HT.out.kc HBC.out
        simp only [zD, zE] at x0 x1
        repeat ((first | (refine run_off rfl rfl (by rfl) ?_) | (refine run_chain_off rfl rfl (by rfl) (K0_mono _) ?_) | ((refine run_want rfl rfl (by rfl) ⟨?_, fun W hW => ?_, ?_⟩; rotate_left; (· (have d0 := hW.kc x0; have d1 := hW.kc x1; have d2 := hW.kc b1; have d3 := hW.kc g1; have d4 := hW.kc g2; go_simp; (try with_reducible rfl)))))); (try simp only [Act.put, zA, zB, zC]))
        clear x0 x1 b1
        clear g1 g2
        refine run_end (L := []) rfl (fun W6 hW6 => ?_)
        have HT6 := zH (HT.out.trans hW6)
        clear hW6 HT
        have HT := HT6
        clear HT6
        go_wp2
        go_ret
        exact ⟨by rw [HR.out]; rfl, HS.out.trans (HTR.out.trans (HS3.out.trans HT.out))⟩
       have hc : decide (yu ≤ xc) = false := decide_eq_false c
       by_cases m : xm = 0
       rotate_left
       ·have hmm : (xm != 0) = true := by simpa using m
        have HR := zH (HNO.out (by rw [HF.out, decide_eq_true L, decide_eq_true z, decide_eq_true (show xc < yu by omega), decide_eq_false m]; rfl))
        clear z L m c
        have g1 := HT.out.kc HG.out.1
        have g2 := HT.out.kc HG.out.2
        have x0 := (HB3.out.step HT.out).cell 0
        have x1 := (HB3.out.step HT.out).cell 1
        have b1 := HT.out.kc HBC.out
        simp only [zD, zE] at x0 x1
        repeat ((first | (refine run_off rfl rfl (by rfl) ?_) | (refine run_chain_off rfl rfl (by rfl) (K0_mono _) ?_) | ((refine run_want rfl rfl (by rfl) ⟨?_, fun W hW => ?_, ?_⟩; rotate_left; (· (have d0 := hW.kc x0; have d1 := hW.kc x1; have d2 := hW.kc b1; have d3 := hW.kc g1; have d4 := hW.kc g2; go_simp; (try with_reducible rfl)))))); (try simp only [Act.put, zA, zB, zC]))
        clear x0 x1 b1
        clear g1 g2
        refine run_end (L := []) rfl (fun W6 hW6 => ?_)
        have HT6 := zH (HT.out.trans hW6)
        clear hW6 HT
        have HT := HT6
        clear HT6
        go_wp2
        go_ret
        exact ⟨by rw [HR.out]; rfl, HS.out.trans (HTR.out.trans (HS3.out.trans HT.out))⟩
       have hmm : (xm != 0) = false := by simpa using m
       have HLV := zH (show stRefB s.stages (j + 1 + 1 - 1) = true by (show stRefB s.stages (j + 1) = true); rw [HF.out, decide_eq_true L, decide_eq_true z, decide_eq_true (show xc < yu by omega), decide_eq_true m]; rfl)
       clear z L m c
       have g1 := HT.out.kc HG.out.1
       have g2 := HT.out.kc HG.out.2
       have x0 := (HB3.out.step HT.out).cell 0
       have x1 := (HB3.out.step HT.out).cell 1
       have b1 := HT.out.kc HBC.out
       simp only [zD, zE] at x0 x1
       repeat ((first | (refine run_off rfl rfl (by rfl) ?_) | (refine run_chain_off rfl rfl (by rfl) (K0_mono _) ?_) | ((refine run_want rfl rfl (by rfl) ⟨?_, fun W hW => ?_, ?_⟩; rotate_left; (· (have d0 := hW.kc x0; have d1 := hW.kc x1; have d2 := hW.kc b1; have d3 := hW.kc g1; have d4 := hW.kc g2; go_simp; (try with_reducible rfl)))))); (try simp only [Act.put, zA, zB, zC]))
       clear x0 x1 b1
       clear g1 g2
       refine run_end (L := []) rfl (fun W6 hW6 => ?_)
       have HT6 := zH (HT.out.trans hW6)
       clear hW6 HT
       have HT := HT6
       clear HT6
       go_wp2
       go_roundw
       case rel => exact ⟨j + 1 + 1, by omega, by go_num, fun i hi hl => if e : i + 1 = j + 1 + 1 then by (obtain rfl : i = j + 1 + 1 - 1 := by omega); exact HLV.out else HA.out i (by omega) hl, HTR.out.trans (HS3.out.trans HT.out)⟩
       case measure => simp [intOf]; omega
      have e8 : c8 = false := by rw [← HL8.out]; simp; omega
      subst e8
      by_cases z : xc = 0
      ·have hz : (xc == 0) = true := by simpa using z
       have HR := zH (HNO.out (by rw [HF.out, decide_eq_false L, decide_eq_true z]; rfl))
       clear z L
       have g1 := HT.out.kc HG.out.1
       have g2 := HT.out.kc HG.out.2
       have x0 := (HB3.out.step HT.out).cell 0
       have x1 := (HB3.out.step HT.out).cell 1
       have b1 := HT.out.kc HBC.out
       simp only [zD, zE] at x0 x1
       repeat ((first | (refine run_off rfl rfl (by rfl) ?_) | (refine run_chain_off rfl rfl (by rfl) (K0_mono _) ?_) | ((refine run_want rfl rfl (by rfl) ⟨?_, fun W hW => ?_, ?_⟩; rotate_left; (· (have d0 := hW.kc x0; have d1 := hW.kc x1; have d2 := hW.kc b1; have d3 := hW.kc g1; have d4 := hW.kc g2; go_simp; (try with_reducible rfl)))))); (try simp only [Act.put, zA, zB, zC]))
       clear x0 x1 b1
       clear g1 g2
       refine run_end (L := []) rfl (fun W6 hW6 => ?_)
       have HT6 := zH (HT.out.trans hW6)
       clear hW6 HT
       have HT := HT6
       clear HT6
       go_wp2
       go_ret
       exact ⟨by rw [HR.out]; rfl, HS.out.trans (HTR.out.trans (HS3.out.trans HT.out))⟩
      have hz : (xc == 0) = false := by simpa using z
      by_cases c : yu ≤ xc
      ·have hc : decide (yu ≤ xc) = true := decide_eq_true c
       have HR := zH (HNO.out (by rw [HF.out, decide_eq_false L, decide_eq_false z, decide_eq_false (show ¬ xc < yu by omega)]; rfl))
       clear z L c
       have g1 := HT.out.kc HG.out.1
       have g2 := HT.out.kc HG.out.2
       have x0 := (HB3.out.step HT.out).cell 0
       have x1 := (HB3.out.step HT.out).cell 1
       have b1 := HT.out.kc HBC.out
       simp only [zD, zE] at x0 x1
       repeat ((first | (refine run_off rfl rfl (by rfl) ?_) | (refine run_chain_off rfl rfl (by rfl) (K0_mono _) ?_) | ((refine run_want rfl rfl (by rfl) ⟨?_, fun W hW => ?_, ?_⟩; rotate_left; (· (have d0 := hW.kc x0; have d1 := hW.kc x1; have d2 := hW.kc b1; have d3 := hW.kc g1; have d4 := hW.kc g2; go_simp; (try with_reducible rfl)))))); (try simp only [Act.put, zA, zB, zC]))
       clear x0 x1 b1
       clear g1 g2
       refine run_end (L := []) rfl (fun W6 hW6 => ?_)
       have HT6 := zH (HT.out.trans hW6)
       clear hW6 HT
       have HT := HT6
       clear HT6
       go_wp2
       go_ret
       exact ⟨by rw [HR.out]; rfl, HS.out.trans (HTR.out.trans (HS3.out.trans HT.out))⟩
      have hc : decide (yu ≤ xc) = false := decide_eq_false c
      cases w3 : withinB xm 1 240 with
      | false =>
       have HR := zH (HNO.out (by rw [HF.out, decide_eq_false L, decide_eq_false z, decide_eq_true (show xc < yu by omega), w3]; rfl))
       clear z L c
       have g1 := HT.out.kc HG.out.1
       have g2 := HT.out.kc HG.out.2
       have x0 := (HB3.out.step HT.out).cell 0
       have x1 := (HB3.out.step HT.out).cell 1
       have b1 := HT.out.kc HBC.out
       simp only [zD, zE] at x0 x1
       repeat ((first | (refine run_off rfl rfl (by rfl) ?_) | (refine run_chain_off rfl rfl (by rfl) (K0_mono _) ?_) | ((refine run_want rfl rfl (by rfl) ⟨?_, fun W hW => ?_, ?_⟩; rotate_left; (· (have d0 := hW.kc x0; have d1 := hW.kc x1; have d2 := hW.kc b1; have d3 := hW.kc g1; have d4 := hW.kc g2; go_simp; (try with_reducible rfl)))))); (try simp only [Act.put, zA, zB, zC]))
       clear x0 x1 b1
       clear g1 g2
       refine run_chain rfl rfl (by rfl) (fun Wi hWi K' hK => ?_)
       have HTi := zH (HT.out.trans hWi)
       clear hWi HT
       go_simp
       refine (bigtopref01.In_any _ _ _ _).mono ?_
       rintro e wn ⟨rfl, rfl⟩
       have HT := HTi
       clear HTi
       rw [w3]
       refine hK _ _ (StepX.refl _ _) ?_
       (try simp only [Act.put, zA, zB, zC])
       have g1 := HT.out.kc HG.out.1
       have g2 := HT.out.kc HG.out.2
       have x0 := (HB3.out.step HT.out).cell 0
       have x1 := (HB3.out.step HT.out).cell 1
       have b1 := HT.out.kc HBC.out
       simp only [zD, zE] at x0 x1
       repeat ((first | (refine run_off rfl rfl (by rfl) ?_) | (refine run_chain_off rfl rfl (by rfl) (K0_mono _) ?_) | ((refine run_want rfl rfl (by rfl) ⟨?_, fun W hW => ?_, ?_⟩; rotate_left; (· (have d0 := hW.kc x0; have d1 := hW.kc x1; have d2 := hW.kc b1; have d3 := hW.kc g1; have d4 := hW.kc g2; go_simp; (try with_reducible rfl)))))); (try simp only [Act.put, zA, zB, zC]))
       clear x0 x1 b1
       clear g1 g2
       refine run_end (L := []) rfl (fun W6 hW6 => ?_)
       have HT6 := zH (HT.out.trans hW6)
       clear hW6 HT
       have HT := HT6
       clear HT6
       go_wp2
       go_ret
       exact ⟨by rw [HR.out]; rfl, HS.out.trans (HTR.out.trans (HS3.out.trans HT.out))⟩
      | true =>
       have HLV := zH (show stRefB s.stages (j + 1 + 1 - 1) = true by (show stRefB s.stages (j + 1) = true); rw [HF.out, decide_eq_false L, decide_eq_false z, decide_eq_true (show xc < yu by omega), w3]; rfl)
       clear z L c
       have g1 := HT.out.kc HG.out.1
       have g2 := HT.out.kc HG.out.2
       have x0 := (HB3.out.step HT.out).cell 0
       have x1 := (HB3.out.step HT.out).cell 1
       have b1 := HT.out.kc HBC.out
       simp only [zD, zE] at x0 x1
       repeat ((first | (refine run_off rfl rfl (by rfl) ?_) | (refine run_chain_off rfl rfl (by rfl) (K0_mono _) ?_) | ((refine run_want rfl rfl (by rfl) ⟨?_, fun W hW => ?_, ?_⟩; rotate_left; (· (have d0 := hW.kc x0; have d1 := hW.kc x1; have d2 := hW.kc b1; have d3 := hW.kc g1; have d4 := hW.kc g2; go_simp; (try with_reducible rfl)))))); (try simp only [Act.put, zA, zB, zC]))
       clear x0 x1 b1
       clear g1 g2
       refine run_chain rfl rfl (by rfl) (fun Wi hWi K' hK => ?_)
       have HTi := zH (HT.out.trans hWi)
       clear hWi HT
       go_simp
       refine (bigtopref01.In_any _ _ _ _).mono ?_
       rintro e wn ⟨rfl, rfl⟩
       have HT := HTi
       clear HTi
       rw [w3]
       refine hK _ _ (StepX.refl _ _) ?_
       (try simp only [Act.put, zA, zB, zC])
       have g1 := HT.out.kc HG.out.1
       have g2 := HT.out.kc HG.out.2
       have x0 := (HB3.out.step HT.out).cell 0
       have x1 := (HB3.out.step HT.out).cell 1
       have b1 := HT.out.kc HBC.out
       simp only [zD, zE] at x0 x1
       repeat ((first | (refine run_off rfl rfl (by rfl) ?_) | (refine run_chain_off rfl rfl (by rfl) (K0_mono _) ?_) | ((refine run_want rfl rfl (by rfl) ⟨?_, fun W hW => ?_, ?_⟩; rotate_left; (· (have d0 := hW.kc x0; have d1 := hW.kc x1; have d2 := hW.kc b1; have d3 := hW.kc g1; have d4 := hW.kc g2; go_simp; (try with_reducible rfl)))))); (try simp only [Act.put, zA, zB, zC]))
       clear x0 x1 b1
       clear g1 g2
       refine run_end (L := []) rfl (fun W6 hW6 => ?_)
       have HT6 := zH (HT.out.trans hW6)
       clear hW6 HT
       have HT := HT6
       clear HT6
       go_wp2
       go_roundw
       case rel => exact ⟨j + 1 + 1, by omega, by go_num, fun i hi hl => if e : i + 1 = j + 1 + 1 then by (obtain rfl : i = j + 1 + 1 - 1 := by omega); exact HLV.out else HA.out i (by omega) hl, HTR.out.trans (HS3.out.trans HT.out)⟩
       case measure => simp [intOf]; omega
    have HFIN := zH (show siteB s = (withinB s.base.length 1 12 && withinB s.levels.length 1 10 && withinB s.stages.length 2 8 && withinB s.openS 0 ((s.stages.length : Int) - 2)) by
     have hst : (List.range s.stages.length).all (stRefB s.stages) = true := by
      rw [List.all_eq_true]
      intro i hi
      rw [List.mem_range] at hi
      exact HA.out i (by omega) hi
     rw [HSR.out, HBW.out, HLW.out, hst]; simp only [Bool.true_and])
    have hwn : IntKind.i64.wrap ((s.stages.length : Int) - 2) = (s.stages.length : Int) - 2 := by rw [IntKind.wrap_i64]; omega
    have v0 := (HB.out.step HTR.out).cell 0
    have v1 := (HB.out.step HTR.out).cell 1
    have v2 := (HB.out.step HTR.out).cell 2
    have v3 := (HB.out.step HTR.out).cell 3
    simp only [zD, zE] at v0 v1 v2 v3
    clear b2 HA hk
    go_wp2_with fail
    refine (bigtopref01.In_any _ _ _ _).mono ?_
    rintro e wn ⟨rfl, rfl⟩
    cases w1 : withinB s.base.length 1 12 with
    | false =>
     have HR := zH (show siteB s = false by rw [HFIN.out, w1]; rfl)
     clear w1
     go_wp2
     go_ret
     exact ⟨by rw [HR.out]; rfl, HS.out.trans HTR.out⟩
    | true =>
    go_wp2_with fail
    refine (bigtopref01.In_any _ _ _ _).mono ?_
    rintro e wn ⟨rfl, rfl⟩
    cases w2 : withinB s.levels.length 1 10 with
    | false =>
     have HR := zH (show siteB s = false by rw [HFIN.out, w1, w2]; rfl)
     clear w1 w2
     go_wp2
     go_ret
     exact ⟨by rw [HR.out]; rfl, HS.out.trans HTR.out⟩
    | true =>
    go_wp2_with fail
    refine (bigtopref01.In_any _ _ _ _).mono ?_
    rintro e wn ⟨rfl, rfl⟩
    cases w3 : withinB s.stages.length 2 8 with
    | false =>
     have HR := zH (show siteB s = false by rw [HFIN.out, w1, w2, w3]; rfl)
     clear w1 w2 w3
     go_wp2
     go_ret
     exact ⟨by rw [HR.out]; rfl, HS.out.trans HTR.out⟩
    | true =>
    go_wp2_with fail
    refine (bigtopref01.In_any _ _ _ _).mono ?_
    rintro e wn ⟨rfl, rfl⟩
    have HR := zH (show siteB s = withinB s.openS 0 ((s.stages.length : Int) - 2) by rw [HFIN.out, w1, w2, w3]; rfl)
    clear w1 w2 w3
    go_wp2
    go_ret
    exact ⟨by rw [HR.out]; rfl, HS.out.trans HTR.out⟩
end Go.Proofs.YtfhmdpicoccnfaaGreat
namespace Go.BT
def reefedC (s : Site) (t : List Head) (i : Int) : Int := if tentB t = true ∧ siteB s = true then (if withinB i 0 ((s.stages.length : Int) - 1) = true then 0 else 2) else 1
def coverAt (s : Site) (i : Int) : Int := match s.stages[i.toNat]? with | some x => x.cover | none => 0
def reefedR (s : Site) (t : List Head) (i : Int) : List Head := if reefedC s t i = 0 then reefL (coverAt s i) t else []
def siteC (s : Site) : Int := if siteB s = true then 0 else 1
def limitsC (l : List Tst) (t : List Head) (s : Site) : Int := if testsC l = 0 then (if tentB t = true ∧ siteB s = true then soundC l else 1) else testsC l
def limitsR (l : List Tst) (t : List Head) (s : Site) : List Int := if limitsC l t s = 0 then limitsL l t s else []
end Go.BT
namespace Go.Proofs.YtfhmdpicoccnfaaGreat
set_option linter.unusedSimpArgs false
set_option linter.unusedVariables false
open Go.RowKit Go.BT
theorem Clash_weak (S : Nat → Prop) (l : List Tst) (v : Value) (w : World) (hv : SL S w v l) :
  Calls Tryz.prog 24 #[v] w fun e w' => ∃ i j : Int, e = .returned (.tuple #[.int .i64 i, .int .i64 j]) ∧ Step w w' := by
 have hm := hv.len
 obtain ⟨pv, cv, b, o, rfl, _, _, hp, hc, _⟩ := hv.tsts
 have HP := zH (And.intro hp hc)
 have HT0 := zH (Step.refl w)
 clear hp hc hv
 go_enter Tryz.func24, Tryz.ntmps24
 go_wp2
 go_loopw [4] (fun i wr => ∃ k : Nat, k ≤ l.length ∧ i = .int .i64 k ∧ Step w wr) (fun i _ => l.length - (intOf i).toNat)
 case atStart => exact ⟨0, Nat.zero_le _, rfl, HT0.out⟩
 case round =>
  obtain ⟨k, hk, rfl, hT⟩ := hrel
  have HT := zH hT
  clear hT
  by_cases hlt : k < l.length
  ·obtain rfl := HP.out.1 (by omega)
   have HE := zH (HP.out.2 k hlt)
   have hix : (0 : Int) ≤ (k : Int) ∧ (k : Int) < (l.length : Int) := by omega
   obtain ⟨x, hx⟩ : ∃ x, x = l[k] := ⟨_, rfl⟩
   rw [← hx] at HE
   clear hx
   obtain ⟨wo, hwo⟩ : ∃ W, W = wr := ⟨_, rfl⟩
   subst hwo
   obtain ⟨xs, xd, xf, xh⟩ := x
   cases xh with
   | false =>
    obtain ⟨e1, e2, e3, e4⟩ := HE.out
    have e4 := HT.out.kc e4
    (try dsimp only at e4)
    clear e1 e2 e3
    go_wp2
    go_loopw [5] (fun i wi => i = .int .i64 0 ∧ Step w wi) (fun i _ => 0)
    case atStart => exact ⟨rfl, HT.out⟩
    case round =>
     obtain ⟨rfl, hT⟩ := hrel
     have HTJ := zH hT
     clear hT
     obtain ⟨_, _, _, e4'⟩ := HE.out
     have e4 := HTJ.out.kc e4'
     (try dsimp only at e4)
     have hl0 : (0 : Int) < (l.length : Int) := by omega
     clear e4'
     go_wp2
     go_roundw
     case rel => exact ⟨k + 1, by omega, by go_num, HTJ.out⟩
     case measure => simp [intOf]; omega
   | true =>
    go_wp2
    go_loopw [5] (fun i wi => ∃ j : Nat, j ≤ l.length ∧ i = .int .i64 j ∧ Step w wi) (fun i _ => l.length - (intOf i).toNat)
    case atStart => exact ⟨0, Nat.zero_le _, rfl, HT.out⟩
    case round =>
     obtain ⟨j, hj, rfl, hT⟩ := hrel
     have HTJ := zH hT
     clear hT
     obtain ⟨e1, e2, e3, e4⟩ := HE.out
     have e1 := HTJ.out.kc e1
     have e2 := HTJ.out.kc e2
     have e3 := HTJ.out.kc e3
     have e4 := HTJ.out.kc e4
     (try dsimp only at e1 e2 e3 e4)
     by_cases hltj : j < l.length
     ·obtain ⟨f1, f2, f3, f4⟩ := HP.out.2 j hltj
      have f1 := HTJ.out.kc f1
      have f2 := HTJ.out.kc f2
      have f3 := HTJ.out.kc f3
      have f4 := HTJ.out.kc f4
      have hjx : (0 : Int) ≤ (j : Int) ∧ (j : Int) < (l.length : Int) := by omega
      obtain ⟨y, hy⟩ : ∃ y, y = l[j] := ⟨_, rfl⟩
      rw [← hy] at f1 f2 f3 f4
      clear hy
      obtain ⟨ys, yd, yf, yh⟩ := y
      (try dsimp only at f1 f2 f3 f4)
      obtain ⟨A, hw1⟩ : ∃ A, IntKind.i64.wrap (xf * yd) = A := ⟨_, rfl⟩
      obtain ⟨B, hw2⟩ : ∃ B, IntKind.i64.wrap (yf * xd) = B := ⟨_, rfl⟩
      cases yh with
      | true =>
       go_upto_region 7 with (fail)
       go_quiet (fail)
       go_wp2
       go_roundw
       case rel => exact ⟨j + 1, by omega, by go_num, HTJ.out.trans (Step.drewN _ _)⟩
       case measure => simp [intOf]; omega
      | false =>
       by_cases hs : ys = xs
       rotate_left
       ·have hd : (ys == xs) = false := by simpa using hs
        clear hs
        go_upto_region 7 with (fail)
        go_quiet (fail)
        go_wp2
        go_roundw
        case rel => exact ⟨j + 1, by omega, by go_num, HTJ.out.trans (Step.drewN _ _)⟩
        case measure => simp [intOf]; omega
       subst hs
       by_cases hg : B ≤ A
       ·have hd : decide (B ≤ A) = true := by simpa using hg
        clear hg
        go_upto_region 7 with (fail)
        go_quiet (fail)
        go_wp2
        go_ret2
        exact ⟨_, _, rfl, HTJ.out.trans (Step.drewN _ _)⟩
       ·have hd : decide (B ≤ A) = false := by simpa using hg
        clear hg
        go_upto_region 7 with (fail)
        go_quiet (fail)
        go_wp2
        go_roundw
        case rel => exact ⟨j + 1, by omega, by go_num, HTJ.out.trans (Step.drewN _ _)⟩
        case measure => simp [intOf]; omega
     ·go_wp2
      go_roundw
      case rel => exact ⟨k + 1, by omega, by go_num, HTJ.out⟩
      case measure => simp [intOf]; omega
  ·go_wp2
   go_ret2
   exact ⟨_, _, rfl, HT.out⟩
theorem CheckSite_any (s : Site) (u : Value) (w : World) (hu : AV (fun _ => False) w u s) : Calls Tryz.prog 19 #[u] w fun e w' => e = .returned (.int .i64 (siteC s)) ∧ Step w w' := by
 obtain ⟨c0, c1, c2, rfl, q0, q1, q2⟩ := hu.site
 have hnst := q2.len
 obtain ⟨p1, k1, rfl⟩ := q1.form
 obtain ⟨p2, k2, rfl⟩ := q2.form
 obtain ⟨p0, k0, rfl⟩ := q0.form
 obtain ⟨W0, hW0⟩ : ∃ W, W = w.alloc (.cells #[.slice p0 s.base.length k0, .slice p1 s.levels.length k1, .slice p2 s.stages.length k2, .int .i64 s.openS] 47) := ⟨_, rfl⟩
 have hbx : Bx W0 w.heap.size [.slice p0 s.base.length k0, .slice p1 s.levels.length k1, .slice p2 s.stages.length k2, .int .i64 s.openS] 47 := by subst hW0; exact Bx.new w [_, _, _, _] _
 have hS : Step w W0 := by subst hW0; exact Step.alloc _ _
 have HW := zH hW0
 have HB := zH hbx
 have HS := zH hS
 have HAV := zH (AV.go hu hS)
 have HV2 := zH (SL.go q2 hS)
 have HT := zH (Step.refl W0)
 clear hW0 hbx hS hu q0 q1 q2
 go_enter Tryz.func19, Tryz.ntmps19
 go_upto_region 1 with (fail)
 rw [← HW.out]
 have g0 := (HB.out.step HT.out).cell 0
 have g1 := (HB.out.step HT.out).cell 1
 have g2 := (HB.out.step HT.out).cell 2
 have g3 := (HB.out.step HT.out).cell 3
 simp only [zD, zE] at g0 g1 g2 g3
 have hcall := zH (siteValid_any s _ _ (AV.go HAV.out HT.out))
 go_wp2_with fail
 refine hcall.out.mono ?_
 clear hcall
 rintro e wn ⟨rfl, hSn⟩
 have HTi := zH (HT.out.trans hSn)
 clear hSn HT
 have HT := HTi
 clear HTi
 clear g0 g1 g2 g3
 cases hs : siteB s with
 | false =>
  have HR := zH (show siteC s = 1 by unfold siteC; rw [hs]; rfl)
  clear hs
  go_wp2
  go_ret
  exact ⟨by rw [HR.out]; rfl, HS.out.trans HT.out⟩
 | true =>
  have HR := zH (show siteC s = 0 by unfold siteC; rw [hs]; rfl)
  clear hs
  go_wp2
  go_ret
  exact ⟨by rw [HR.out]; rfl, HS.out.trans HT.out⟩
theorem LimitsG_any (s : Site) (l : List Tst) (t : List Head) (v x u : Value) (w : World) (hv : SL (fun _ => False) w v l) (hx : SL (fun _ => False) w x t) (hu : AV (fun _ => False) w u s) :
  Calls Tryz.prog 11 #[v, x, u] w fun e w' => ∃ v', e = .returned (.tuple #[v', .int .i64 (limitsC l t s)]) ∧ SL (fun _ => False) w' v' (limitsR l t s) ∧ Step w w' := by
 by_cases hall : testsC l = 0 ∧ tentB t = true ∧ siteB s = true ∧ soundC l = 0
 ·obtain ⟨h1, h2, h3, h4⟩ := hall
  have hc : limitsC l t s = 0 := by unfold limitsC; rw [if_pos h1, if_pos ⟨h2, h3⟩, h4]
  refine (Limits_any s l t v x u w hv hx hu h3 h1 h2).mono ?_
  rintro e w' ⟨v', rfl, hs, hS⟩
  exact ⟨v', by rw [hc, h4], by unfold limitsR; rw [if_pos hc]; exact hs h4, hS⟩
 have HNO := zH hall
 have HERR := zH (fun (c : Int) (w' : World) (h : limitsC l t s = c) (hc : c ≠ 0) (hst : Step w w') => show ∃ v', (Ending.returned (.tuple #[.slice none 0 0, .int .i64 c]) : Ending) = .returned (.tuple #[v', .int .i64 (limitsC l t s)]) ∧ SL (fun _ => False) w' v' (limitsR l t s) ∧ Step w w' from
  ⟨_, by rw [h], by unfold limitsR; rw [h, if_neg hc]; exact SL.nil _ _, hst⟩)
 obtain ⟨c0, c1, c2, rfl, q0, q1, q2⟩ := hu.site
 have hnst := q2.len
 obtain ⟨p1, k1, rfl⟩ := q1.form
 obtain ⟨p2, k2, rfl⟩ := q2.form
 obtain ⟨p0, k0, rfl⟩ := q0.form
 obtain ⟨W0, hW0⟩ : ∃ W, W = w.alloc (.cells #[.slice p0 s.base.length k0, .slice p1 s.levels.length k1, .slice p2 s.stages.length k2, .int .i64 s.openS] 47) := ⟨_, rfl⟩
 have hbx : Bx W0 w.heap.size [.slice p0 s.base.length k0, .slice p1 s.levels.length k1, .slice p2 s.stages.length k2, .int .i64 s.openS] 47 := by subst hW0; exact Bx.new w [_, _, _, _] _
 have hS : Step w W0 := by subst hW0; exact Step.alloc _ _
 have HW := zH hW0
 have HB := zH hbx
 have HS := zH hS
 have HAV := zH (AV.go hu hS)
 have HV2 := zH (SL.go q2 hS)
 have HT := zH (Step.refl W0)
 obtain ⟨pv, cv, rfl⟩ := hv.form
 obtain ⟨px, cx, rfl⟩ := hx.form
 have HV := zH (SL.go hv hS)
 have HX := zH (SL.go hx hS)
 clear hW0 hbx hS hu hv hx q0 q1 q2 hall
 go_enter Tryz.func11, Tryz.ntmps11
 go_upto_region 1 with (fail)
 rw [← HW.out]
 have hcall := zH (CheckTests_any (fun _ => False) l _ _ (SL.go HV.out HT.out))
 go_wp2_with fail
 refine hcall.out.mono ?_
 clear hcall
 rintro e wn ⟨rfl, hSn⟩
 have HTi := zH (HT.out.trans hSn)
 clear hSn HT
 have HT := HTi
 clear HTi
 obtain ⟨tc, htc⟩ : ∃ c, c = testsC l := ⟨_, rfl⟩
 rw [← htc]
 have HTC := zH htc
 clear htc
 by_cases h1 : tc = 0
 rotate_left
 ·have hd : (tc != 0) = true := by simpa using h1
  have HR := zH (show limitsC l t s = tc by unfold limitsC; rw [← HTC.out, if_neg h1])
  have H1 := zH h1
  clear h1
  go_wp2
  go_ret2
  exact HERR.out tc _ HR.out H1.out (HS.out.trans HT.out)
 subst h1
 have hcall := zH (CheckTent_any (fun _ => False) t _ _ (SL.go HX.out HT.out))
 go_wp2_with fail
 refine hcall.out.mono ?_
 clear hcall
 rintro e wn ⟨rfl, hSn⟩
 have HTi := zH (HT.out.trans hSn)
 clear hSn HT
 have HT := HTi
 clear HTi
 cases h2 : tentB t with
 | false =>
  have HR := zH (show limitsC l t s = 1 by unfold limitsC; rw [← HTC.out, if_pos rfl, if_neg (fun q => by rw [h2] at q; exact absurd q.1 (by decide))])
  rw [show tentC t = 1 by unfold tentC; rw [h2]; rfl]
  clear h2
  go_wp2
  go_ret2
  exact HERR.out 1 _ HR.out (by decide) (HS.out.trans HT.out)
 | true =>
 rw [show tentC t = 0 by unfold tentC; rw [h2]; rfl]
 have H2 := zH h2
 clear h2
 have g0 := (HB.out.step HT.out).cell 0
 have g1 := (HB.out.step HT.out).cell 1
 have g2 := (HB.out.step HT.out).cell 2
 have g3 := (HB.out.step HT.out).cell 3
 simp only [zD, zE] at g0 g1 g2 g3
 have hcall := zH (siteValid_any s _ _ (AV.go HAV.out HT.out))
 go_wp2_with fail
 refine hcall.out.mono ?_
 clear hcall
 rintro e wn ⟨rfl, hSn⟩
 have HTi := zH (HT.out.trans hSn)
 clear hSn HT
 have HT := HTi
 clear HTi
 clear g0 g1 g2 g3
 cases h3 : siteB s with
 | false =>
  have HR := zH (show limitsC l t s = 1 by unfold limitsC; rw [← HTC.out, if_pos rfl, if_neg (fun q => by rw [h3] at q; exact absurd q.2 (by decide))])
  clear h3
  go_wp2
  go_ret2
  exact HERR.out 1 _ HR.out (by decide) (HS.out.trans HT.out)
 | true =>
 have H3 := zH h3
 clear h3
 have hcall := zH (ClashP_any (fun _ => False) l _ _ (SL.go HV.out HT.out))
 go_wp2_with fail
 refine hcall.out.mono ?_
 clear hcall
 rintro e wn ⟨rfl, hSn⟩
 have HTi := zH (HT.out.trans hSn)
 clear hSn HT
 have HT := HTi
 clear HTi
 have hcc := clash_code HTC.out.symm
 obtain ⟨cc, hc0⟩ : ∃ c, c = clashC l := ⟨_, rfl⟩
 rw [← hc0] at hcc ⊢
 clear hc0
 cases q : clashB l with
 | true =>
  rw [q] at hcc
  have HR := zH (show limitsC l t s = 9 by unfold limitsC; rw [← HTC.out, if_pos rfl, if_pos ⟨H2.out, H3.out⟩]; unfold soundC; rw [q]; rfl)
  clear q
  go_wp2
  go_ret2
  exact HERR.out 9 _ HR.out (by decide) (HS.out.trans HT.out)
 | false =>
  exfalso
  exact HNO.out ⟨HTC.out.symm, H2.out, H3.out, by unfold soundC; rw [q]; rfl⟩
theorem ReefedG_any (s : Site) (t : List Head) (i : Int) (x u : Value) (w : World) (hx : SL (fun _ => False) w x t) (hu : AV (fun _ => False) w u s) :
  Calls Tryz.prog 15 #[x, u, .int .i64 i] w fun e w' => ∃ v', e = .returned (.tuple #[v', .int .i64 (reefedC s t i)]) ∧ SL (fun _ => False) w' v' (reefedR s t i) ∧ Step w w' := by
 by_cases hall : tentB t = true ∧ siteB s = true ∧ withinB i 0 ((s.stages.length : Int) - 1) = true
 ·obtain ⟨h1, h2, h3⟩ := hall
  have hc : reefedC s t i = 0 := by unfold reefedC; rw [if_pos ⟨h1, h2⟩, if_pos h3]
  have hb : 0 ≤ i ∧ i ≤ (s.stages.length : Int) - 1 := by simpa [withinB] using h3
  obtain ⟨n, rfl⟩ : ∃ n : Nat, i = n := ⟨i.toNat, by omega⟩
  have hn : n < s.stages.length := by omega
  refine (Reefed_any s t n x u w hx hu h2 h1 hn).mono ?_
  rintro e w' ⟨v', rfl, hs, hS⟩
  refine ⟨v', by rw [hc], ?_, hS⟩
  unfold reefedR coverAt
  rw [if_pos hc, Int.toNat_natCast, List.getElem?_eq_getElem hn]
  exact hs
 have HNO := zH hall
 have HERR := zH (fun (c : Int) (w' : World) (h : reefedC s t i = c) (hc : c ≠ 0) (hst : Step w w') => show ∃ v', (Ending.returned (.tuple #[.slice none 0 0, .int .i64 c]) : Ending) = .returned (.tuple #[v', .int .i64 (reefedC s t i)]) ∧ SL (fun _ => False) w' v' (reefedR s t i) ∧ Step w w' from
  ⟨_, by rw [h], by unfold reefedR; rw [h, if_neg hc]; exact SL.nil _ _, hst⟩)
 obtain ⟨c0, c1, c2, rfl, q0, q1, q2⟩ := hu.site
 have hnst := q2.len
 obtain ⟨p1, k1, rfl⟩ := q1.form
 obtain ⟨p2, k2, rfl⟩ := q2.form
 obtain ⟨p0, k0, rfl⟩ := q0.form
 obtain ⟨W0, hW0⟩ : ∃ W, W = w.alloc (.cells #[.slice p0 s.base.length k0, .slice p1 s.levels.length k1, .slice p2 s.stages.length k2, .int .i64 s.openS] 47) := ⟨_, rfl⟩
 have hbx : Bx W0 w.heap.size [.slice p0 s.base.length k0, .slice p1 s.levels.length k1, .slice p2 s.stages.length k2, .int .i64 s.openS] 47 := by subst hW0; exact Bx.new w [_, _, _, _] _
 have hS : Step w W0 := by subst hW0; exact Step.alloc _ _
 have HW := zH hW0
 have HB := zH hbx
 have HS := zH hS
 have HAV := zH (AV.go hu hS)
 have HV2 := zH (SL.go q2 hS)
 have HT := zH (Step.refl W0)
 obtain ⟨px, cx, rfl⟩ := hx.form
 have HX := zH (SL.go hx hS)
 clear hW0 hbx hS hu hx q0 q1 q2 hall
 go_enter Tryz.func15, Tryz.ntmps15
 go_upto_region 1 with (fail)
 rw [← HW.out]
 have hcall := zH (CheckTent_any (fun _ => False) t _ _ (SL.go HX.out HT.out))
 go_wp2_with fail
 refine hcall.out.mono ?_
 clear hcall
 rintro e wn ⟨rfl, hSn⟩
 have HTi := zH (HT.out.trans hSn)
 clear hSn HT
 have HT := HTi
 clear HTi
 cases h2 : tentB t with
 | false =>
  have HR := zH (show reefedC s t i = 1 by unfold reefedC; rw [if_neg (fun q => by rw [h2] at q; exact absurd q.1 (by decide))])
  rw [show tentC t = 1 by unfold tentC; rw [h2]; rfl]
  clear h2
  go_wp2
  go_ret2
  exact HERR.out 1 _ HR.out (by decide) (HS.out.trans HT.out)
 | true =>
 rw [show tentC t = 0 by unfold tentC; rw [h2]; rfl]
 have H2 := zH h2
 clear h2
 have g0 := (HB.out.step HT.out).cell 0
 have g1 := (HB.out.step HT.out).cell 1
 have g2 := (HB.out.step HT.out).cell 2
 have g3 := (HB.out.step HT.out).cell 3
 simp only [zD, zE] at g0 g1 g2 g3
 have hcall := zH (siteValid_any s _ _ (AV.go HAV.out HT.out))
 go_wp2_with fail
 refine hcall.out.mono ?_
 clear hcall
 rintro e wn ⟨rfl, hSn⟩
 have HTi := zH (HT.out.trans hSn)
 clear hSn HT
 have HT := HTi
 clear HTi
 clear g0 g1 g2 g3
 cases h3 : siteB s with
 | false =>
  have HR := zH (show reefedC s t i = 1 by unfold reefedC; rw [if_neg (fun q => by rw [h3] at q; exact absurd q.2 (by decide))])
  clear h3
  go_wp2
  go_ret2
  exact HERR.out 1 _ HR.out (by decide) (HS.out.trans HT.out)
 | true =>
 have H3 := zH h3
 have hn := (site_ok h3).nst
 clear h3
 have g2 := (HB.out.step HT.out).cell 2
 simp only [zD, zE] at g2
 have hwl : IntKind.i64.wrap ((s.stages.length : Int) - 1) = (s.stages.length : Int) - 1 := by rw [IntKind.wrap_i64]; omega
 go_wp2_with fail
 refine (gale.within_any _ _ _ _).mono ?_
 rintro e wx ⟨rfl, rfl⟩
 cases q : withinB i 0 ((s.stages.length : Int) - 1) with
 | false =>
  have HR := zH (show reefedC s t i = 2 by unfold reefedC; rw [if_pos ⟨H2.out, H3.out⟩, if_neg (by rw [q]; decide)])
  clear q hn
  go_wp2
  go_ret2
  exact HERR.out 2 _ HR.out (by decide) (HS.out.trans HT.out)
 | true =>
  exfalso
  exact HNO.out ⟨H2.out, H3.out, q⟩
end Go.Proofs.YtfhmdpicoccnfaaGreat
namespace Go.BT
open Go.RowKit
theorem splice_get (cs ds : List Value) (p k q : Nat) (hp : p + k ≤ cs.length) (hd : ds.length = k) : (cs.take p ++ ds ++ cs.drop (p + k))[q]? = if q < p then cs[q]? else if q < p + k then ds[q - p]? else cs[q]? := by
 have h1 : (cs.take p).length = p := by simp; omega
 by_cases a : q < p
 ·rw [if_pos a, List.append_assoc, List.getElem?_append_left (by omega), List.getElem?_take_of_lt a]
 ·rw [if_neg a]
  by_cases b : q < p + k
  ·rw [if_pos b, List.getElem?_append_left (by simp; omega), List.getElem?_append_right (by omega), h1]
  ·rw [if_neg b, List.getElem?_append_right (by simp; omega), List.getElem?_drop]
   congr 1
   simp
   omega
theorem piece_get (L : List Value) (n k j q : Nat) (hj : j < n) : (((L.take (n * k)).drop (j * k)).take k)[q]? = if q < k then L[j * k + q]? else none := by
 have hm : j * k + k ≤ n * k := by
  have := Nat.mul_le_mul_right k (show j + 1 ≤ n by omega)
  rw [Nat.add_mul, Nat.one_mul] at this
  exact this
 by_cases a : q < k
 ·rw [if_pos a, List.getElem?_take_of_lt a, List.getElem?_drop, List.getElem?_take_of_lt (by omega)]
 ·rw [if_neg a, List.getElem?_take, if_neg a]
theorem OwnL.row_put {α : Type} [Rep α] {S : Nat → Prop} {base : Nat} {e : TypeId} {w : World} {v : Value} {l : List α} (h : OwnL S base e w v l) {i : Nat} (hi : i < l.length) :
  ∃ g cap cs, v = .slice (some ⟨g, 0, none⟩) l.length cap ∧ base ≤ g ∧ Bx w g cs e ∧ i * Rep.k α + Rep.k α ≤ cs.length ∧ Rep.rep (avoid S v) w ((cs.drop (i * Rep.k α)).take (Rep.k α)) l[i] ∧
   ∀ w' ds (y : α), Rep.rep (avoid S v) w ds y → Wrote g w w' → Bx w' g (cs.take (i * Rep.k α) ++ ds ++ cs.drop (i * Rep.k α + Rep.k α)) e → OwnL S base e w' v (l.set i y) := by
 obtain ⟨xs, ⟨hl, ho⟩, hr⟩ := h
 rcases ho with ⟨_, h0⟩ | ⟨g, cap, cur, rfl, hb, hg, hle, hcap, hsz, htk⟩
 ·omega
 have hm : i * Rep.k α + Rep.k α ≤ l.length * Rep.k α := by
  have := Nat.mul_le_mul_right (Rep.k α) (show i + 1 ≤ l.length by omega)
  rw [Nat.add_mul, Nat.one_mul] at this
  exact this
 have hm2 : l.length * Rep.k α ≤ cap * Rep.k α := Nat.mul_le_mul_right _ hle
 have hcl : cur.toList.length = cap * Rep.k α := by simpa using hsz
 have hpi : ((xs.drop (i * Rep.k α)).take (Rep.k α)) = ((cur.toList.drop (i * Rep.k α)).take (Rep.k α)) := by
  subst htk
  refine List.ext_getElem? fun q => ?_
  rw [piece_get _ _ _ _ _ hi]
  by_cases a : q < Rep.k α
  ·rw [if_pos a, List.getElem?_take_of_lt a, List.getElem?_drop]
  ·rw [if_neg a, List.getElem?_take, if_neg a]
 refine ⟨g, cap, cur.toList, rfl, hb, by unfold Bx; rw [hg], by omega, hpi ▸ hr i hi, fun w' ds y hy hw hbx => ?_⟩
 have hd : ds.length = Rep.k α := Rep.len hy
 have hk : Keeps (avoid S (.slice (some ⟨g, 0, none⟩) l.length cap)) w w' := hw.keeps.mono fun j _ hj => .inr (by rw [hj]; rfl)
 refine ⟨(cur.toList.take (i * Rep.k α) ++ ds ++ cur.toList.drop (i * Rep.k α + Rep.k α)).take (l.length * Rep.k α), ⟨?_, .inr ⟨g, cap, _, by simp, hb, hbx, by simpa using hle, hcap, ?_, by simp⟩⟩, fun j hj => ?_⟩
 ·simp; omega
 ·simp; omega
 ·have hj' : j < l.length := by simpa using hj
  have hlen : (l.set i y).length = l.length := by simp
  rw [List.getElem_set]
  by_cases e : i = j
  ·subst e
   rw [if_pos rfl]
   have : (((cur.toList.take (i * Rep.k α) ++ ds ++ cur.toList.drop (i * Rep.k α + Rep.k α)).take (l.length * Rep.k α)).drop (i * Rep.k α)).take (Rep.k α) = ds := by
    refine List.ext_getElem? fun q => ?_
    rw [piece_get _ _ _ _ _ hi]
    by_cases a : q < Rep.k α
    ·rw [if_pos a, splice_get _ _ _ _ _ (by omega) hd, if_neg (by omega), if_pos (by omega), Nat.add_sub_cancel_left]
    ·rw [if_neg a, List.getElem?_eq_none (by omega)]
   rw [this]
   exact Rep.keep hk (Rep.weak (fun _ _ h => h) hy)
  ·rw [if_neg e]
   have h0 := hr j hj'
   have : (((cur.toList.take (i * Rep.k α) ++ ds ++ cur.toList.drop (i * Rep.k α + Rep.k α)).take (l.length * Rep.k α)).drop (j * Rep.k α)).take (Rep.k α) = ((xs.drop (j * Rep.k α)).take (Rep.k α)) := by
    subst htk
    refine List.ext_getElem? fun q => ?_
    rw [piece_get _ _ _ _ _ hj', piece_get _ _ _ _ _ hj']
    by_cases a : q < Rep.k α
    ·rw [if_pos a, if_pos a, splice_get _ _ _ _ _ (by omega) hd]
     rcases Nat.lt_or_gt_of_ne e with h1 | h1
     ·have := Nat.mul_le_mul_right (Rep.k α) (show i + 1 ≤ j by omega)
      rw [Nat.add_mul, Nat.one_mul] at this
      rw [if_neg (by omega), if_neg (by omega)]
     ·have := Nat.mul_le_mul_right (Rep.k α) (show j + 1 ≤ i by omega)
      rw [Nat.add_mul, Nat.one_mul] at this
      rw [if_pos (by omega)]
    ·rw [if_neg a, if_neg a]
   rw [this]
   exact Rep.keep hk h0
theorem run_append_full {α : Type} [Flat α] {S T : Nat → Prop} {base : Nat} {P : Program} {w : World} {l m : List α} {t e : TypeId} {z : Value} {bytes b o : Nat} {u : Value} (ei : EI P t e z (Rep.k α) bytes) (ty : TypeId)
  (hv : SLe S w (.slice (some ⟨b, o, none⟩) l.length l.length) l) (hu : SLe T w u m) (hm : 0 < m.length) (n : Nat) (hn : l.length + m.length = n) (lm : List α) (hlm : l ++ m = lm) (h63 : n ≤ 1000000000) (hbytes : n * bytes ≤ 140737488355328) (hbase : base ≤ w.heap.size) :
  ∃ c w', (Builtin.append_ #[t, t] ty #[.slice (some ⟨b, o, none⟩) l.length l.length, u]).run P w = .ok (.slice (some ⟨w.heap.size, 0, none⟩) n c) w' ∧ OwnL (fun _ => False) base e w' (.slice (some ⟨w.heap.size, 0, none⟩) n c) lm ∧ Step w w' := by
 subst hn hlm
 obtain ⟨ht, hzs, i, hi, hz, hsize, hby⟩ := ei
 obtain ⟨pv, cv, bv, ov, e1, hcv, _, hpv, hav⟩ := hv
 injection e1 with e1 _ e3
 obtain ⟨pu, cu, bu, ou, rfl, hcu, _, hpu, hau⟩ := hu
 obtain ⟨news, hl, hnw, h1, hrs⟩ := cells_of_at m ou hau
 obtain rfl := hpu hm
 have hav' : ∀ i (h : i < l.length), ∃ cs, Rep.rep S w cs l[i] ∧ ∀ j v, cs[j]? = some v → w.cell? ⟨b, o + i * Rep.k α + j, none⟩ = some v := fun i h => by
  have := hpv (by omega)
  rw [← e1] at this
  injection this with this
  injection this with ea eo
  subst ea eo
  exact hav i h
 obtain ⟨olds, hlo, hold, ho1, hro⟩ := cells_of_at l o hav'
 have hfit := growslice_fits (need := l.length + m.length) (old := l.length) (bytes := bytes) (by omega) hbytes
 have hrun := run_append_grow (P := P) (w := w) t ty e i z ht hi hz ⟨b, o, none⟩ l.length l.length olds (by rw [hlo, hsize]) (fun j v hj => by rw [Addr.add_lit]; exact hold j v hj) ⟨bu, ou, none⟩ m.length cu news (by rw [hl, hsize]) (fun j v hj => by rw [Addr.add_lit]; exact hnw j v hj) (by omega) (by omega) (by rw [hby]; exact hfit)
 have hge := grownCap_ge w (l.length + m.length) l.length e
 have hcm : grownCap w (l.length + m.length) l.length e ≤ maxLen := grownCap_le_maxLen w _ _ e (by simp only [maxLen]; omega)
 have hlen : (olds ++ news).length = (l.length + m.length) * Rep.k α := by rw [List.length_append, hlo, hl, Nat.add_mul]
 have hlm : (l ++ m).length = l.length + m.length := List.length_append
 refine ⟨_, _, hrun, ⟨olds ++ news, ⟨by rw [hlm]; exact hlen, .inr ⟨w.heap.size, _, _, by rw [hlm], hbase, heap_alloc_new w.drew _, by rw [hlm]; exact hge, hcm, ?_, ?_⟩⟩, fun k hk => ?_⟩, (Step.drew _).trans (Step.alloc _ _)⟩
 ·simp only [Array.size_append, List.size_toArray, size_zeroCells, hzs, hlo, hl, ← Nat.add_mul]
  congr 1
  omega
 ·simp only [Array.toList_append, List.append_assoc]
  rw [hlm, ← List.append_assoc, ← hlen]
  exact List.take_left
 ·by_cases hkl : k < l.length
  ·have e1 : ((olds ++ news).drop (k * Rep.k α)).take (Rep.k α) = (olds.drop (k * Rep.k α)).take (Rep.k α) := by
    have : k * Rep.k α + Rep.k α ≤ olds.length := by
     rw [hlo, ← Nat.succ_mul]; exact Nat.mul_le_mul_right _ hkl
    rw [List.drop_append_of_le_length (by omega), List.take_append_of_le_length (by rw [List.length_drop]; omega)]
   rw [e1, List.getElem_append_left hkl]
   exact Flat.flat (hro k hkl)
  ·have hk' : k - l.length < m.length := by simp at hk; omega
   have e1 : (olds ++ news).drop (k * Rep.k α) = news.drop ((k - l.length) * Rep.k α) := by
    rw [List.drop_append, List.drop_of_length_le (by rw [hlo]; exact Nat.mul_le_mul_right _ (by omega)), List.nil_append, hlo, ← Nat.sub_mul]
   rw [e1, List.getElem_append_right (by omega)]
   exact Flat.flat (hrs _ hk')
theorem wpl_append_full {α : Type} [Flat α] {S T : Nat → Prop} {base : Nat} {P : Program} {w : World} {l m : List α} {t e : TypeId} {z : Value} {bytes b o : Nat} {v u : Value} {ops : Array Oper} {rest : List Oper} {op : Oper} {a : Act} {Q : Exit → Act → World → Prop}
  (ei : EI P t e z (Rep.k α) bytes) (hgd : op.guard = none) (s x : Operand) (ho : op.op = .call { callee := .builtin .append, args := #[s, x], argTypes := #[t, t] }) (hs : a.eval s = v) (hx : a.eval x = u)
  (hf : v = .slice (some ⟨b, o, none⟩) l.length l.length) (hv : SLe S w v l) (hu : SLe T w u m) (hm : 0 < m.length) (n : Nat) (hn : l.length + m.length = n) (lm : List α) (hlm : l ++ m = lm) (h63 : n ≤ 1000000000) (hbytes : n * bytes ≤ 140737488355328) (hbase : base ≤ w.heap.size)
  (h : ∀ c w', OwnL (fun _ => False) base e w' (.slice (some ⟨w.heap.size, 0, none⟩) n c) lm → Step w w' → wpList P ops Q rest (a.put op.dst (.slice (some ⟨w.heap.size, 0, none⟩) n c)) w') : wpList P ops Q (op :: rest) a w := by
 subst hf
 refine wpList_plain hgd fun _ hK => ?_
 obtain ⟨c, w', hr, h2, h3⟩ := run_append_full ei op.type hv hu hm n hn lm hlm h63 hbytes hbase
 unfold Oper.wp execOp
 simp only [ho, resolve, invoke, builtin, Sem.run_bind, Sem.run_pure, Result.andThen_ok, List.map_toArray, List.map_cons, List.map_nil, hs, hx, hr]
 exact hK _ _ (h c w' h2 h3)
section
variable {α : Type} [Rep α] {S : Nat → Prop} {base : Nat} {P : Program} {w : World} {v u : Value} {l m : List α} {t e : TypeId} {z : Value} {bytes : Nat}
end
end Go.BT
namespace Go.BT
open Go.RowKit
theorem set_first (cs : List Value) (p : Nat) (x a b c : Value) (hl : p + 3 ≤ cs.length) (h : (cs.drop p).take 3 = [a, b, c]) : cs.set p x = cs.take p ++ [x, b, c] ++ cs.drop (p + 3) := by
 refine List.ext_getElem? fun j => ?_
 rw [splice_get _ _ _ _ _ hl rfl, List.getElem?_set]
 have e : ∀ i, i < 3 → cs[p + i]? = [a, b, c][i]? := fun i hi => by
  rw [← h, List.getElem?_take, if_pos hi, List.getElem?_drop]
 by_cases h1 : j < p
 ·rw [if_pos h1, if_neg (by omega)]
 ·rw [if_neg h1]
  by_cases h2 : j < p + 3
  ·rw [if_pos h2]
   obtain ⟨i, rfl⟩ : ∃ i, j = p + i := ⟨j - p, by omega⟩
   rw [Nat.add_sub_cancel_left]
   have h3 := e i (by omega)
   by_cases h4 : i = 0
   ·subst h4; rw [if_pos (by omega), if_pos (by omega)]; rfl
   ·rw [if_neg (by omega), h3]
    match i, (show i < 3 by omega), h4 with
    | 1, _, _ => rfl
    | 2, _, _ => rfl
  ·rw [if_neg h2, if_neg (by omega)]
theorem own_area {S : Nat → Prop} {base : Nat} {e : TypeId} {w : World} {v : Value} {l : List Head} (h : OwnL S base e w v l) {k : Nat} (hk : k < l.length) :
  ∃ g c, v = .slice (some ⟨g, 0, none⟩) l.length c ∧ base ≤ g ∧ g < w.heap.size ∧ w.cell? ⟨g, k * 3, none⟩ = some (.int .i64 l[k].area) ∧ w.frozen? ⟨g, k * 3, none⟩ = false ∧
   ∀ x : Int, OwnL S base e (w.setCell ⟨g, k * 3, none⟩ (.int .i64 x)) v (l.set k { l[k] with area := x }) := by
 obtain ⟨g, cap, cs, rfl, hb, hbx, hle, hr, hput⟩ := h.row_put hk
 have hk4 : Rep.k Head = 3 := rfl
 rw [hk4] at hle hr hput
 obtain ⟨c2, hr', hg⟩ := hr
 refine ⟨g, cap, rfl, hb, hbx.lt, ?_, hbx.frozen _, fun x => ?_⟩
 ·rw [hbx.cell]
  have := congrArg (fun l => l[0]?) hr'
  simpa [List.getElem?_take, List.getElem?_drop] using this
 ·refine hput _ [.int .i64 x, .int .i64 l[k].bears, c2] _ ⟨c2, rfl, hg⟩ (Wrote.setCell _ _ _ _) ?_
  rw [← set_first cs (k * 3) (.int .i64 x) _ _ _ hle hr']
  exact hbx.setCell _ _
def reefTo (c : Int) (t : List Head) (k : Nat) : List Head := reefL c (t.take k) ++ t.drop k
theorem reefTo_zero (c : Int) (t : List Head) : reefTo c t 0 = t := by simp [reefTo, reefL]
theorem reefTo_end (c : Int) (t : List Head) : reefTo c t t.length = reefL c t := by simp [reefTo, reefL]
theorem reefTo_len (c : Int) (t : List Head) (k : Nat) : (reefTo c t k).length = t.length := by
 simp [reefTo, reefL]; omega
theorem reefTo_get (c : Int) (t : List Head) {k : Nat} (h : k < t.length) : (reefTo c t k)[k]'(by rw [reefTo_len]; exact h) = t[k] := by
 have hl : (reefL c (t.take k)).length = k := by simp [reefL]; omega
 simp only [reefTo]
 rw [List.getElem_append_right (by omega)]
 simp [hl]
theorem reefTo_set (c : Int) (t : List Head) {k : Nat} (h : k < t.length) : (reefTo c t k).set k (reefH c t[k]) = reefTo c t (k + 1) := by
 have hl : (reefL c (t.take k)).length = k := by simp [reefL]; omega
 have hd : t.drop k = t[k] :: t.drop (k + 1) := List.drop_eq_getElem_cons h
 have ht : reefL c (t.take (k + 1)) = reefL c (t.take k) ++ [reefH c t[k]] := by
  unfold reefL
  rw [List.take_succ_eq_append_getElem h, List.map_append]; rfl
 simp only [reefTo]
 rw [ht, hd, List.set_append_right _ _ (by omega), hl, Nat.sub_self]
 simp
 rw [hd]; rfl
theorem list5 {α : Type} {l : List α} (h : l.length = 5) : ∃ a b c d e, l = [a, b, c, d, e] := by
 match l, h with
 | [a, b, c, d, e], _ => exact ⟨_, _, _, _, _, rfl⟩
end Go.BT
namespace Go.Proofs.YtfhmdpicoccnfaaGreat
set_option linter.unusedSimpArgs false
set_option linter.unusedVariables false
open Go.RowKit Go.BT
theorem equal_guy5 (a b c d e : Int) (w : World) : (Op.equal 85 (.agg #[.int .i64 a, .int .i64 b, .int .i64 c, .int .i64 d, .int .i64 e]) (.agg #[.int .i64 a, .int .i64 b, .int .i64 c, .int .i64 d, .int .i64 e])).run Tryz.prog w = .ok true w := by
 unfold Op.equal Op.maxDepth
 rw [run_equalIn_agg (w := w) 9999 85 _ _ (by kernel_rfl) (by kernel_rfl)]
 have hf : (Tryz.prog.fieldsOf 85).toList.map (fun f => (f.name, f.type, f.offset)) = [("X", 3, 0), ("Y", 3, 1), ("Down", 3, 2), ("Soil", 3, 3), ("Depth", 3, 4)] := by kernel_rfl
 have hi : Tryz.prog.underlying 3 = some (.int .i64) := by kernel_rfl
 have hq : ∀ (a b : Int) (w : World), (Op.equalIn 9999 3 (.int .i64 a) (.int .i64 b)).run Tryz.prog w = .ok (a == b) w := fun a b w => run_equalIn_int (w := w) 9998 _ _ .i64 _ _ hi
 obtain ⟨f1, f2, f3, f4, f5, hfg⟩ := list5 (l := (Tryz.prog.fieldsOf 85).toList) (by have := congrArg List.length hf; rw [List.length_map] at this; exact this)
 rw [hfg] at hf ⊢
 simp only [List.map_cons, List.map_nil, List.cons.injEq, Prod.mk.injEq, and_true] at hf
 obtain ⟨⟨n1, t1, o1⟩, ⟨n2, t2, o2⟩, ⟨n3, t3, o3⟩, ⟨n4, t4, o4⟩, n5, t5, o5⟩ := hf
 simp [Op.eqFields, n1, n2, n3, n4, n5, t1, t2, t3, t4, t5, o1, o2, o3, o4, o5, hi, part, run_underlying hi]
 simp only [hq, Result.andThen_ok]
 simp [Result.andThen]
theorem neq_guy5 (a b c d e : Int) (w : World) : (binOp .neq 85 (.agg #[.int .i64 a, .int .i64 b, .int .i64 c, .int .i64 d, .int .i64 e]) (.agg #[.int .i64 a, .int .i64 b, .int .i64 c, .int .i64 d, .int .i64 e])).run Tryz.prog w = .ok (.bool false) w := by
 have h := equal_guy5 a b c d e w
 unfold Op.equal Op.maxDepth at h
 first
  | (rw [run_neq_struct, h]; rfl)
  | (simp [binOp, h])
attribute [local go_sem] neq_guy5
theorem tents_same (t : List Head) (va vb : Value) (w : World) (ha : SL (fun _ => False) w va t) (hb : SL (fun _ => False) w vb t) :
  Calls Tryz.prog 22 #[va, vb] w fun e w' => e = .returned (.bool true) ∧ Step w w' := by
 obtain ⟨pa, ca, ba, oa, rfl, _, hma, hpa, hca, _⟩ := ha.heads
 obtain ⟨pb, cb, bb, ob, rfl, _, hmb, hpb, hcb, _⟩ := hb.heads
 have HA := zH (And.intro hpa hca)
 have HB := zH (And.intro hpb hcb)
 clear ha hb hpa hca hpb hcb
 go_enter Tryz.func22, Tryz.ntmps22
 go_wp2
 go_loopw [5] (fun i wr => ∃ k : Nat, k ≤ t.length ∧ i = .int .i64 k ∧ Step w wr) (fun i _ => t.length - (intOf i).toNat)
 case atStart => exact ⟨0, Nat.zero_le _, rfl, Step.refl _⟩
 case round =>
  obtain ⟨k, hk, rfl, hT⟩ := hrel
  have HT := zH hT
  clear hT
  by_cases hlt : k < t.length
  rotate_left
  ·go_wp2
   go_ret
   exact ⟨rfl, HT.out⟩
  obtain rfl := HA.out.1 (by omega)
  obtain rfl := HB.out.1 (by omega)
  obtain ⟨ga, a0, a1, a2, a3⟩ := HA.out.2 k hlt
  obtain ⟨gb, b0, b1, b2, b3⟩ := HB.out.2 k hlt
  obtain ⟨x, hx⟩ : ∃ x, x = t[k] := ⟨_, rfl⟩
  rw [← hx] at a0 a1 a3 b0 b1 b3
  clear hx
  obtain ⟨xa, xb, xg⟩ := x
  dsimp only at a0 a1 a3 b0 b1 b3
  obtain ⟨pga, cga, bga, oga, rfl, _, hmg, hpga, hcga, _⟩ := a3.guys
  obtain ⟨pgb, cgb, bgb, ogb, rfl, _, _, hpgb, hcgb, _⟩ := b3.guys
  have HG := zH (And.intro hpga (And.intro hcga (And.intro hpgb hcgb)))
  have HE := zH (And.intro a0 (And.intro a1 (And.intro a2 (And.intro b0 (And.intro b1 b2)))))
  have hix : (0 : Int) ≤ (k : Int) ∧ (k : Int) < (t.length : Int) := by omega
  clear a0 a1 a2 a3 b0 b1 b2 b3 hpga hcga hpgb hcgb
  have a0 := HT.out.kc HE.out.1
  have a1 := HT.out.kc HE.out.2.1
  have a2 := HT.out.kc HE.out.2.2.1
  have b0 := HT.out.kc HE.out.2.2.2.1
  have b1 := HT.out.kc HE.out.2.2.2.2.1
  have b2 := HT.out.kc HE.out.2.2.2.2.2
  go_upto_region 6 with (fail)
  go_quiet (fail)
  go_wp2
  clear a0 a1 a2 b0 b1 b2
  go_loopw [6] (fun i wi => ∃ j : Nat, j ≤ xg.length ∧ i = .int .i64 j ∧ Step w wi) (fun i _ => xg.length - (intOf i).toNat)
  case atStart => exact ⟨0, Nat.zero_le _, rfl, HT.out.trans (Step.drewN _ _)⟩
  case round =>
   obtain ⟨j, hj, rfl, hT⟩ := hrel
   clear HT
   have HT := zH hT
   clear hT
   have a0 := HT.out.kc HE.out.1
   have a1 := HT.out.kc HE.out.2.1
   have a2 := HT.out.kc HE.out.2.2.1
   have b0 := HT.out.kc HE.out.2.2.2.1
   have b1 := HT.out.kc HE.out.2.2.2.2.1
   have b2 := HT.out.kc HE.out.2.2.2.2.2
   by_cases hltj : j < xg.length
   rotate_left
   ·go_wp2
    go_roundw
    case rel => exact ⟨k + 1, by omega, by go_num, HT.out⟩
    case measure => simp [intOf]; omega
   obtain rfl := HG.out.1 (by omega)
   obtain rfl := HG.out.2.2.1 (by omega)
   obtain ⟨f0, f1, f2, f3, f4⟩ := HG.out.2.1 j hltj
   obtain ⟨g0, g1, g2, g3, g4⟩ := HG.out.2.2.2 j hltj
   have f0 := HT.out.kc f0
   have f1 := HT.out.kc f1
   have f2 := HT.out.kc f2
   have f3 := HT.out.kc f3
   have f4 := HT.out.kc f4
   have g0 := HT.out.kc g0
   have g1 := HT.out.kc g1
   have g2 := HT.out.kc g2
   have g3 := HT.out.kc g3
   have g4 := HT.out.kc g4
   have hjx : (0 : Int) ≤ (j : Int) ∧ (j : Int) < (xg.length : Int) := by omega
   go_upto_region 11 with (fail)
   go_quiet (fail)
   go_wp2
   go_roundw
   case rel => exact ⟨j + 1, by omega, by go_num, HT.out.trans (Step.drewN _ _)⟩
   case measure => simp [intOf]; omega
theorem infoRHead : (Tryz.prog.info? 112).map (fun i => (i.zero, i.size, i.bytes)) = some (some (.agg #[.int .i64 0, .int .i64 0, .slice none 0 0]), 3, 40) := by kernel_rfl
theorem eiRHeads : EI Tryz.prog 24 112 (.agg #[.int .i64 0, .int .i64 0, .slice none 0 0]) 3 40 := .mk' Tryz.underlying24 infoRHead rfl
theorem RReefed_any (x : Stg) (t : List Head) (v : Value) (w : World) (hv : SL (fun _ => False) w v t) (hc : 0 ≤ x.cover ∧ x.cover ≤ 100) (ht : tentB t = true) :
  Calls Tryz.prog 23 #[v, .agg #[.int .i64 x.cover, .int .i64 x.minutes]] w fun e w' => ∃ v', e = .returned v' ∧ SL (fun _ => False) w' v' (reefL x.cover t) ∧ Step w w' := by
 obtain ⟨xc, xm⟩ := x
 dsimp only at hc ⊢
 obtain ⟨W0, hW0⟩ : ∃ W, W = w.alloc (.cells #[.int .i64 xc, .int .i64 xm] 66) := ⟨_, rfl⟩
 have hbx : Bx W0 w.heap.size [.int .i64 xc, .int .i64 xm] 66 := by subst hW0; exact Bx.new w [_, _] _
 have hS : Step w W0 := by subst hW0; exact Step.alloc _ _
 have hv0 := SL.go hv hS
 have hsl := SL_avoid hv0 W0.heap.size (Nat.le_refl _) (some ⟨W0.heap.size, 0, none⟩) 0 0 rfl
 obtain ⟨pv, cv, rfl⟩ := hv.form
 have hlen : t.length ≤ 12 ∧ t.all headB = true := by
  unfold tentB at ht; simp only [Bool.and_eq_true, withinB, decide_eq_true_eq] at ht; exact ⟨by omega, ht.2⟩
 have hm := hlen.1
 have HW := zH hW0
 have HB := zH hbx
 have HS := zH hS
 have HC := zH (And.intro hc hlen)
 have HSL := zH hsl
 clear hW0 hbx hS hv ht hc hlen hv0 hsl
 go_enter Tryz.func23, Tryz.ntmps23
 go_upto_region 1 with (fail)
 rw [← HW.out]
 go_wp2_with (at_builtin; refine wpl_append (α := Head) (S := fun _ => False) (base := W0.heap.size) (v := .slice (some ⟨W0.heap.size, 0, none⟩) 0 0) (l := []) (m := t) eiRHeads rfl _ _ rfl rfl rfl ⟨[], World.ownsRow_lit W0 #[] 0 (Nat.le_refl _) (by simp [maxLen]) (by simp), fun i h => absurd h (by simp)⟩ (SL.e (HSL.out.keep (.alloc _ _))) t.length (by simp) t rfl ?_ ?_ ?_ ?_)
 ·simp only [maxLen]; omega
 ·omega
 ·simp
 intro p' c' w' hown hg
 have HX := zH (show Step W0 w' from .of (((Below.refl _ W0).alloc (Nat.le_refl _) _).grown hg (by simp) (by simp [Value.ownBlock])))
 have HO := zH hown
 clear hown hg HSL
 go_wp2
 go_loopw [6, 7] (fun i _ wr => ∃ k : Nat, k ≤ t.length ∧ i = .int .i64 k ∧ OwnL (fun _ => False) W0.heap.size 112 wr (.slice p' t.length c') (reefTo xc t k) ∧ Step W0 wr) (fun i _ _ => t.length - (intOf i).toNat)
 case atStart => exact ⟨0, Nat.zero_le _, rfl, by rw [reefTo_zero]; exact HO.out, HX.out⟩
 case round =>
  obtain ⟨k, hk, rfl, hown, hT⟩ := hrel
  have HT := zH hT
  have HOW := zH hown
  clear hT HO
  by_cases hlt : k < t.length
  rotate_left
  ·have hke : k = t.length := by omega
   subst hke
   have HF := zH (show SL (fun _ => False) wr (.slice p' t.length c') (reefL xc t) by rw [← reefTo_end]; exact HOW.out.sl (fun _ _ _ h => h))
   clear hown hk
   go_wp2
   go_ret
   exact ⟨_, rfl, HF.out, HS.out.trans HT.out⟩
  have hhb := head_parts (all_get HC.out.2.2 hlt)
  have HSET := zH (reefTo_set xc t hlt)
  have HGET := zH (reefTo_get xc t hlt)
  have HLN := zH (reefTo_len xc t k)
  obtain ⟨LL, hLL⟩ : ∃ L, L = reefTo xc t k := ⟨_, rfl⟩
  have HOW2 := zH (show OwnL (fun _ => False) W0.heap.size 112 wr (.slice p' t.length c') LL by rw [hLL]; exact hown)
  have hget : ∀ (hh : k < LL.length), LL[k] = t[k] := by subst hLL; exact fun _ => HGET.out
  have hll : LL.length = t.length := by rw [hLL]; exact HLN.out
  have HSET2 := zH (show LL.set k (reefH xc t[k]) = reefTo xc t (k + 1) by rw [hLL]; exact HSET.out)
  clear hLL HSET HGET HLN hown HOW
  obtain ⟨h, hh⟩ : ∃ h, h = t[k] := ⟨_, rfl⟩
  rw [← hh] at hget hhb HSET2
  have hgt := zH (And.intro hget hll)
  have hmul := Int.mul_nonneg hhb.1.1 HC.out.1.1
  have hmul2 := Int.mul_le_mul hhb.1.2 HC.out.1.2 HC.out.1.1 (by decide)
  obtain ⟨n, hn⟩ : ∃ n, n = h.area * xc := ⟨_, rfl⟩
  rw [← hn] at hmul hmul2
  have hw1 : IntKind.i64.wrap (h.area * xc) = n := by rw [← hn, IntKind.wrap_i64]; omega
  have HRA := zH (show reefA h.area xc = (n + 99) / 100 by unfold reefA; rw [hn])
  obtain ⟨q, hq⟩ : ∃ q, q = n / 100 := ⟨_, rfl⟩
  obtain ⟨r, hr⟩ : ∃ r, r = n % 100 := ⟨_, rfl⟩
  have hw2 : IntKind.i64.wrap (n.tdiv 100) = q := by rw [Int.tdiv_eq_ediv_of_nonneg hmul, ← hq, IntKind.wrap_i64]; omega
  have hr1 : n.tmod 100 = r := by rw [Int.tmod_eq_emod_of_nonneg hmul, ← hr]
  have hr2 : IntKind.i64.wrap (n.tmod 100) = r := by rw [hr1, IntKind.wrap_i64]; omega
  have hw3 : IntKind.i64.wrap (q + 1) = q + 1 := by rw [IntKind.wrap_i64]; omega
  have HNQ := zH (show n = 100 * q + r ∧ 0 ≤ r ∧ r < 100 by omega)
  have HW3 := zH (And.intro hw2 (And.intro hr1 (And.intro hr2 hw3)))
  have hix : (0 : Int) ≤ (k : Int) ∧ (k : Int) < (t.length : Int) := by omega
  clear hn hq hr hhb hmul hmul2 hget hll hh hw2 hr1 hr2 hw3
  obtain ⟨wo, hwo⟩ : ∃ W, W = wr := ⟨_, rfl⟩
  subst hwo
  go_upto_region 5 with (fail)
  (try simp only [Act.put, zA, zB, zC])
  go_cut [7] (fun nv wx => nv = .int .i64 n ∧ Step wo wx)
  case first =>
   obtain ⟨g, c, he, hgb, hgl, hcell, hfz, hput⟩ := own_area HOW2.out (k := k) (by rw [hgt.out.2]; exact hlt)
   rw [hgt.out.2] at he
   injection he with he1 _ he3
   subst he1 he3
   rw [hgt.out.1 (by rw [hgt.out.2]; exact hlt)] at hcell
   have f0 := (HB.out.step HT.out).cell 0
   simp only [zD, zE] at f0
   clear hput hfz
   go_quiet (fail)
   go_wp2
   go_meet
   exact ⟨rfl, Step.drewN _ _⟩
  case rest =>
   obtain ⟨rfl, hTc⟩ := hcut
   obtain ⟨g, c, he, hgb, hgl, hcell, hfz, hput⟩ := own_area (HOW2.out.step hTc) (k := k) (by rw [hgt.out.2]; exact hlt)
   rw [hgt.out.2] at he
   injection he with he1 _ he3
   subst he1 he3
   rw [hgt.out.1 (by rw [hgt.out.2]; exact hlt)] at hcell hput
   have HPUT := zH (hput q)
   have HTc := zH (HT.out.trans hTc)
   have HGB := zH hgb
   obtain ⟨hw2, hr1, hr2, hw3⟩ := HW3.out
   clear hput hTc hgb HOW2
   go_upto_region 7 with (fail)
   obtain ⟨W2, hW2⟩ : ∃ W, W = wc.setCell ⟨g, k * 3, none⟩ (.int .i64 q) := ⟨_, rfl⟩
   rw [← hW2]
   have HO2 := zH (show OwnL (fun _ => False) W0.heap.size 112 W2 (.slice (some ⟨g, 0, none⟩) t.length c') (LL.set k { h with area := q }) by rw [hW2]; exact HPUT.out)
   have HT2 := zH (show Step W0 W2 from Step.wrote HTc.out (by rw [hW2]; exact .setCell _ _ _ _) HGB.out)
   clear hcell hfz HPUT hW2
   by_cases hz : r = 0
   ·have hd : (r != 0) = false := by simpa using hz
    have HEND := zH (show LL.set k { h with area := q } = reefTo xc t (k + 1) by
     rw [← HSET2.out]
     have : reefA h.area xc = q := by rw [HRA.out]; have := HNQ.out; omega
     unfold reefH; rw [this])
    clear hz
    go_wp2
    go_roundw
    case rel => exact ⟨k + 1, by omega, by go_num, by rw [← HEND.out]; exact HO2.out, HT2.out⟩
    case measure => simp [intOf]; omega
   have hd : (r != 0) = true := by simpa using hz
   have hl2 : k < (LL.set k { h with area := q }).length := by rw [List.length_set, hgt.out.2]; exact hlt
   obtain ⟨g2, c2, he, hgb, hgl2, hcell, hfz, hput⟩ := own_area HO2.out (k := k) hl2
   rw [List.length_set, hgt.out.2] at he
   injection he with he1 _ he3
   injection he1 with he1
   injection he1 with he1
   subst he1 he3
   rw [List.getElem_set_self] at hcell
   dsimp only at hcell
   have HEND := zH (show (LL.set k { h with area := q }).set k { (LL.set k { h with area := q })[k] with area := q + 1 } = reefTo xc t (k + 1) by
    rw [← HSET2.out, List.getElem_set_self, List.set_set]
    have : reefA h.area xc = q + 1 := by rw [HRA.out]; have := HNQ.out; omega
    unfold reefH; rw [this])
   have HPUT := zH (hput (q + 1))
   have HGB2 := zH hgb
   clear hput hgb hz
   go_wp2
   go_roundw
   case rel => exact ⟨k + 1, by omega, by go_num, by rw [← HEND.out]; exact HPUT.out, Step.wrote HT2.out (.setCell _ _ _ _) HGB2.out⟩
   case measure => simp [intOf]; omega
end Go.Proofs.YtfhmdpicoccnfaaGreat
namespace Go.Proofs.YtfhmdpicoccnfaaGreat
set_option linter.unusedSimpArgs false
set_option linter.unusedVariables false
open Go.RowKit Go.BT
theorem RWindS_any (s : Site) (n : Nat) (hn : n < s.levels.length) (u : Value) (w : World) (hu : AV (fun _ => False) w u s) (hb : s.base.all baseB = true) (hx : 0 ≤ s.levels[n].push ∧ s.levels[n].push ≤ 100) (hl : s.base.length ≤ 12) :
  Calls Tryz.prog 18 #[u, .int .i64 n] w fun e w' => ∃ v', e = .returned v' ∧ SL (Old w) w' v' (blowL s.base s.levels[n].push) ∧ Step w w' := by
 obtain ⟨c0, c1, c2, rfl, h0, h1, h2⟩ := hu.site
 obtain ⟨p2, k2, rfl⟩ := h2.form
 obtain ⟨W0, hW0⟩ : ∃ W, W = w.alloc (.cells #[c0, c1, .slice p2 s.stages.length k2, .int .i64 s.openS] 29) := ⟨_, rfl⟩
 have hS : Step w W0 := by subst hW0; exact Step.alloc _ _
 obtain ⟨q, d, bv, ov, rfl, _, hm, hp, hcl, _⟩ := (SL.go h0 hS).vecs
 obtain ⟨q1, d1, b1, o1, rfl, _, hm1, hp1, hcl1, _⟩ := (SL.go h1 hS).lvls
 have hbx : Bx W0 w.heap.size [.slice q s.base.length d, .slice q1 s.levels.length d1, .slice p2 s.stages.length k2, .int .i64 s.openS] 29 := by subst hW0; exact Bx.new w [_, _, _, _] _
 have HW := zH hW0
 have HBX := zH hbx
 have HS := zH hS
 have HC := zH (And.intro hb hx)
 have HP := zH (And.intro hp hcl)
 obtain rfl := hp1 (by omega)
 have HL := zH (hcl1 n hn).2
 have hnx : (0 : Int) ≤ (n : Int) ∧ (n : Int) < (s.levels.length : Int) := by omega
 have b0 := hbx.cell 0
 simp only [List.getElem?_cons_zero] at b0
 obtain ⟨xp, hxp⟩ : ∃ x, x = s.levels[n].push := ⟨_, rfl⟩
 rw [← hxp] at HC HL
 rw [← hxp]
 clear hW0 hbx hS hu h0 h1 h2 hb hx hp hcl hp1 hcl1 hxp
 go_enter Tryz.func18, Tryz.ntmps18
 go_upto_region 3 with (fail)
 rw [← HW.out]
 clear b0
 go_loopw [5, 6] (fun out i wr => ∃ k : Nat, k ≤ s.base.length ∧ i = .int .i64 k ∧ OwnL (Old w) W0.heap.size 113 wr out ((blowL s.base xp).take k) ∧ Below W0.heap.size W0 wr) (fun _ i _ => s.base.length - (intOf i).toNat)
 case atStart => exact ⟨0, Nat.zero_le _, rfl, OwnL.nil _ _ _ _, Below.refl _ _⟩
 case round =>
  obtain ⟨k, hk, rfl, hown, hB⟩ := hrel
  have HTB := zH (Step.of hB)
  have HO := zH hown
  have HB := zH hB
  obtain ⟨LL, hLL⟩ : ∃ L, L = (blowL s.base xp).take k := ⟨_, rfl⟩
  rw [← hLL] at hown
  obtain ⟨pu, cu, rfl, _⟩ := hown.form
  have HLL := zH hLL
  clear hown hB hLL
  have b0 := (HBX.out.step HTB.out).cell 0
  simp only [List.getElem?_cons_zero] at b0
  by_cases hlt : k < s.base.length
  ·obtain rfl := HP.out.1 (by omega)
   obtain ⟨e1, e2⟩ := HP.out.2 k hlt
   have e1 := HTB.out.kc e1
   have e2 := HTB.out.kc e2
   have b1 := (HBX.out.step HTB.out).cell 1
   simp only [zD, zE] at b1
   have hix : (0 : Int) ≤ (k : Int) ∧ (k : Int) < (s.base.length : Int) := by omega
   have hc := all_get HC.out.1 hlt
   simp only [baseB, withinB, Bool.and_eq_true, decide_eq_true_eq] at hc
   have hblt : k < (blowL s.base xp).length := by simp [blowL]; exact hlt
   have HX := zH (show (blowL s.base xp)[k] = timesV s.base[k] xp by simp [blowL])
   obtain ⟨v, hv⟩ : ∃ v, v = s.base[k] := ⟨_, rfl⟩
   rw [← hv] at e1 e2 HX hc
   obtain ⟨va, vb⟩ := v
   dsimp only at e1 e2 hc
   have hxp := HC.out.2
   have m1 := Int.mul_le_mul_of_nonneg_left hc.1.2 hxp.1
   have m2 := Int.mul_le_mul_of_nonneg_left hc.1.1 hxp.1
   have m3 := Int.mul_le_mul_of_nonneg_left hc.2.2 hxp.1
   have m4 := Int.mul_le_mul_of_nonneg_left hc.2.1 hxp.1
   have hf := zH (And.intro (show fits (xp * va) by unfold fits; omega) (show fits (xp * vb) by unfold fits; omega))
   have HBL := zH (show (blowL s.base xp).length ≤ 12 by simp [blowL]; exact hl)
   have HE := zH (And.intro e1 (And.intro e2 (And.intro (HTB.out.kc HL.out) (And.intro b0 b1))))
   clear hc m1 m2 m3 m4 hv hxp
   go_upto_region 5 with (fail)
   clear e1 e2 b0 b1
   refine wp_region_seq (kdOf [12, 13] []) [0, 0, 2, 0, 14, 30, 0, 64, 0, 448, 960, 1984, 4094, 8190, 16383, 32767] [0, 1, 2, 3, 4, 5, 6, 7, 8, 9, 10, 11, 12, 13] [14, 15] (by kernel_rfl) (by kernel_rfl) (fun i T z hi hk => by simp [kdOf] at hk <;> (try (split at hk <;> cases hk))) ?_
   intro Wx hWx
   have HT := zH ((Step.refl wr).trans hWx)
   clear hWx
   have e1 := HT.out.kc HE.out.1
   have e2 := HT.out.kc HE.out.2.1
   have e3 := HT.out.kc HE.out.2.2.1
   have e4 := HT.out.kc HE.out.2.2.2.1
   have e5 := HT.out.kc HE.out.2.2.2.2
   repeat ((first | (refine run_off rfl rfl (by rfl) ?_) | (refine run_chain_off rfl rfl (by rfl) (K0_mono _) ?_) | ((refine run_want rfl rfl (by rfl) ⟨?_, fun W hW => ?_, ?_⟩; rotate_left; (· (have d0 := hW.kc e1; have d1 := hW.kc e2; have d2 := hW.kc e3; have d3 := hW.kc e4; have d4 := hW.kc e5; go_simp; (try with_reducible rfl)))))); (try simp only [Act.put, zA, zB, zC]))
   clear e1 e2 e3 e4 e5
   refine run_chain rfl rfl (by rfl) (fun Wi hWi K' hK => ?_)
   have HTi := zH (HT.out.trans hWi)
   have HZW := zH HTi.out.size
   clear hWi HT
   go_simp
   refine (Times_any ⟨va, vb⟩ xp _ hf.out.1 hf.out.2).mono ?_
   rintro e wn ⟨rfl, hSn⟩
   have HT := zH (HTi.out.trans (StepX.of hSn))
   clear HTi
   refine hK _ _ (StepX.of hSn) ?_
   clear hSn
   (try simp only [Act.put, zA, zB, zC])
   have hlt := hblt
   have hl := HBL.out
   clear HC HE
   refine run_chain rfl rfl (by rfl) (fun W1 hW1 K' hK' => ?_)
   go_simp
   refine hK' _ _ (.of (Step.alloc _ _)) ?_
   (try simp only [Act.put, zA, zB, zC])
   refine run_end (L := [_, _]) rfl (fun W2 hW2 => ?_)
   have hST := HT.out.trans hW1
   have hown2 := ((HO.out.step hST).alloc (.cells #[.int .i64 (timesV ⟨va, vb⟩ xp).x, .int .i64 (timesV ⟨va, vb⟩ xp).y] 113)).step hW2
   have hu := (SLe.one (S := avoid (Old w) (.slice pu LL.length cu)) (w := W1) (cs := [.int .i64 (timesV ⟨va, vb⟩ xp).x, .int .i64 (timesV ⟨va, vb⟩ xp).y]) (x := (blowL s.base xp)[k]) 113 (by rw [HX.out]; rfl)).step hW2
   have hB2 := ((HB.out.step (Nat.le_refl _) hST).step (Nat.le_refl _) (Step.alloc _ (.cells #[.int .i64 (timesV ⟨va, vb⟩ xp).x, .int .i64 (timesV ⟨va, vb⟩ xp).y] 113))).step (Nat.le_refl _) hW2
   clear hW1 hW2 hK' hST
   go_wp2_with (at_builtin; refine wpl_append1 (l := (blowL s.base xp)) (k := k) eiRVecs rfl _ _ rfl rfl rfl hown2 hlt (by omega) (by decide) hu hB2 (Nat.le_refl _) ?_)
   intro p' c' w2 hown3 hB3 _
   have H3 := zH (And.intro hown3 hB3)
   clear hown2 hu hB2 hown3 hB3
   go_wp2
   go_roundw
   case rel => exact ⟨k + 1, by omega, by go_num, H3.out.1, H3.out.2⟩
   case measure => simp [intOf]; omega
  ·have HN := zH (show LL = blowL s.base xp by rw [HLL.out, List.take_of_length_le (by simp [blowL]; omega)])
   have HF := zH (show SL (Old w) wr (.slice pu LL.length cu) (blowL s.base xp) by
    have h := HO.out.sl (S := Old w) fun g h1 _ h2 => by have := HS.out.size; unfold Old at h2; omega
    rw [← HLL.out, HN.out] at h
    rw [HN.out]; exact h)
   go_wp2
   go_ret
   exact ⟨_, rfl, HF.out, HS.out.trans HTB.out⟩
end Go.Proofs.YtfhmdpicoccnfaaGreat
namespace Go.BT
def limitAt (l : List Tst) (t : List Head) (s : Site) (i : Nat) : Int := (limitsL l t s).getD i 0
theorem weak_stand {l : List Tst} {t : List Head} {wind : List Vec} : decide (0 ≤ (weakP l t wind).1) = !standB l t wind := by
 have := (weakP_iff (l := l) (t := t) (wind := wind)).1
 cases q : standB l t wind with
 | true => have h := this.2 q; simp; exact h
 | false =>
  simp only [Bool.not_false, decide_eq_true_eq]
  have : ¬ (weakP l t wind).1 < 0 := fun h => by rw [q] at this; exact absurd (this.1 h) (by decide)
  omega
theorem tests_all {l : List Tst} (h : testsC l = 0) : l.all tstB = true := by
 unfold testsC at h
 split at h
 ·simp at h
 ·split at h
  ·assumption
  ·simp at h
theorem tent_all {t : List Head} (h : tentB t = true) : t.all headB = true := by
 unfold tentB at h
 exact (Bool.and_eq_true_iff.1 h).2
theorem site_cover {s : Site} (hs : SiteOk s) {i : Nat} (hi : i < s.stages.length) : (s.stages[i].cover = 0 ↔ i + 1 = s.stages.length) ∧ 0 ≤ s.stages[i].cover ∧ s.stages[i].cover ≤ 100 := by
 by_cases e : i + 1 < s.stages.length
 ·have := hs.st i e; omega
 ·have h := hs.last
  rw [show s.stages.length - 1 = i by omega, List.getElem?_eq_getElem hi] at h
  rw [Option.some.inj h]
  refine ⟨⟨fun _ => by omega, fun _ => rfl⟩, by decide, by decide⟩
end Go.BT
namespace Go.Proofs.YtfhmdpicoccnfaaGreat
set_option linter.unusedSimpArgs false
set_option linter.unusedVariables false
open Go.RowKit Go.BT
theorem RLimit_any (s : Site) (l : List Tst) (t : List Head) (i : Nat) (v x u : Value) (w : World) (hv : SL (fun _ => False) w v l) (hx : SL (fun _ => False) w x t) (hu : AV (fun _ => False) w u s) (hs : siteB s = true) (h1 : testsC l = 0) (h3 : tentB t = true) (hi : i < s.stages.length) :
  Calls Tryz.prog 25 #[v, x, u, .int .i64 i] w fun e w' => e = .returned (.int .i64 (limitAt l t s i)) ∧ Step w w' := by
 obtain ⟨c0, c1, c2, rfl, q0, q1, q2⟩ := hu.site
 obtain ⟨p1, k1, rfl⟩ := q1.form
 obtain ⟨p2, k2, rfl⟩ := q2.form
 obtain ⟨p0, k0, rfl⟩ := q0.form
 have hok := site_ok hs
 obtain ⟨W0, hW0⟩ : ∃ W, W = w.alloc (.cells #[.slice p0 s.base.length k0, .slice p1 s.levels.length k1, .slice p2 s.stages.length k2, .int .i64 s.openS] 29) := ⟨_, rfl⟩
 have hbx : Bx W0 w.heap.size [.slice p0 s.base.length k0, .slice p1 s.levels.length k1, .slice p2 s.stages.length k2, .int .i64 s.openS] 29 := by subst hW0; exact Bx.new w [_, _, _, _] _
 have hS : Step w W0 := by subst hW0; exact Step.alloc _ _
 obtain ⟨pv, cv, rfl⟩ := hv.form
 obtain ⟨px, cx, rfl⟩ := hx.form
 have HW := zH hW0
 have HB := zH hbx
 have HS := zH hS
 have HV := zH (SL.go hv hS)
 have HX := zH (SL.go hx hS)
 have HAV := zH (AV.go hu hS)
 have HV1 := zH (SL.go q1 hS)
 obtain ⟨pq, kq, bq, oq, heq, _, _, hpq, hcq, _⟩ := (SL.go q2 hS).stgs
 injection heq with heq1 _ heq3
 subst heq1 heq3
 obtain rfl := hpq (by omega)
 have HE := zH (hcq i hi)
 have HCV := zH (site_cover hok hi)
 have HLM := zH (show limitAt l t s i = limitL l t s s.stages[i].cover by
  unfold limitAt limitsL; rw [List.getD_eq_getElem?_getD, List.getElem?_map, List.getElem?_eq_getElem hi]; rfl)
 have HOK := zH hok
 have HZ := zH (And.intro (tests_all h1) (And.intro (tent_all h3) h3))
 have HT := zH (Step.refl W0)
 have hnst := hok.nst
 have hwl : IntKind.i64.wrap ((s.stages.length : Int) - 1) = (s.stages.length : Int) - 1 := by rw [IntKind.wrap_i64]; omega
 have hixi : (0 : Int) ≤ (i : Int) ∧ (i : Int) < (s.stages.length : Int) := by omega
 obtain ⟨cv0, hcv⟩ : ∃ c, c = s.stages[i].cover := ⟨_, rfl⟩
 obtain ⟨mn0, hmn⟩ : ∃ c, c = s.stages[i].minutes := ⟨_, rfl⟩
 rw [← hcv, ← hmn] at HE
 rw [← hcv] at HCV HLM
 clear hW0 hbx hS hu hv hx q0 q1 q2 hok h1 h3 hs hpq hcq hcv hmn
 go_enter Tryz.func25, Tryz.ntmps25
 go_upto_region 1 with (fail)
 rw [← HW.out]
 have g2 := (HB.out.step HT.out).cell 2
 simp only [zD, zE] at g2
 by_cases hz : i + 1 = s.stages.length
 ·have hd : ((i : Int) == (s.stages.length : Int) - 1) = true := by simp; omega
  have HR := zH (show limitAt l t s i = 1000 by rw [HLM.out, HCV.out.1.2 hz]; rfl)
  clear hz
  go_wp2
  go_ret
  exact ⟨by rw [HR.out]; rfl, HS.out.trans HT.out⟩
 have hd : ((i : Int) == (s.stages.length : Int) - 1) = false := by simp; omega
 have HLZ := zH (show limitAt l t s i = uptoN s.levels (standN l (reefL cv0 t) s.base s.levels) by
  rw [HLM.out]; unfold limitL; rw [if_neg (fun q => hz (HCV.out.1.1 q))])
 clear hz HLM
 go_wp2
 clear g2 hd hwl
 go_loopw [9, 10] (fun b j wr => ∃ k : Nat, k ≤ s.levels.length ∧ j = .int .i64 k ∧ b = .int .i64 (uptoN s.levels k) ∧ (∀ m (hm : m < k) (hl : m < s.levels.length), standB l (reefL cv0 t) (blowL s.base s.levels[m].push) = true) ∧ Step W0 wr) (fun _ j _ => s.levels.length - (intOf j).toNat)
 case atStart => exact ⟨0, Nat.zero_le _, rfl, rfl, fun m hm => absurd hm (by omega), HT.out⟩
 case round =>
  obtain ⟨k, hk, rfl, rfl, hall, hT⟩ := hrel
  have HA := zH hall
  clear HT
  have HT := zH hT
  clear hall hT
  have g1 := (HB.out.step HT.out).cell 1
  simp only [zD, zE] at g1
  by_cases hlt : k < s.levels.length
  rotate_left
  ·have HQ := zH (standN_is s.levels k hk HA.out fun h => absurd h hlt)
   go_wp2
   go_ret
   exact ⟨by rw [HLZ.out, HQ.out]; rfl, HS.out.trans HT.out⟩
  have HLV := zH (HOK.out.lev k hlt)
  have HWB := zH (wind_all (blow_wind HOK.out hlt))
  have HUP := zH (show uptoN s.levels (k + 1) = s.levels[k].upto by simp only [uptoN, List.getElem?_eq_getElem hlt])
  have HBS := zH (HOK.out.base)
  go_upto_region 7 with (fail)
  clear g1
  obtain ⟨wo, hwo⟩ : ∃ W, W = wr := ⟨_, rfl⟩
  subst hwo
  have HTW := HT
  clear HT
  have HT := zH (Step.refl wo)
  have HB0 := HB
  clear HB
  have HB := zH (HB0.out.step HTW.out)
  have HE0 := HE
  clear HE
  have HE := zH (And.intro (HTW.out.kc HE0.out.1) (HTW.out.kc HE0.out.2))
  refine wp_region_seq (kdOf [7, 10, 11] []) [0, 0, 0, 4, 0, 28, 60, 126, 0, 0, 1022, 2047, 4095, 8191, 8191, 16383, 65535] [0, 1, 2, 3, 4, 5, 6, 8, 9, 7, 10, 11, 12, 13, 14, 15, 16] [] (by kernel_rfl) (by kernel_rfl) (fun i T z hi hk => by simp [kdOf] at hk <;> (try (split at hk <;> cases hk))) ?_
  intro Wx hWx
  have HTx := zH (HT.out.trans hWx)
  clear hWx HT
  have HT := HTx
  clear HTx
  have g0 := (HB.out.step HT.out).cell 0
  have g1 := (HB.out.step HT.out).cell 1
  have g2 := (HB.out.step HT.out).cell 2
  have g3 := (HB.out.step HT.out).cell 3
  have e1 := HT.out.kc HE.out.1
  have e2 := HT.out.kc HE.out.2
  simp only [zD, zE] at g0 g1 g2 g3
  repeat ((first | (refine run_off rfl rfl (by rfl) ?_) | (refine run_chain_off rfl rfl (by rfl) (K0_mono _) ?_) | ((refine run_want rfl rfl (by rfl) ⟨?_, fun W hW => ?_, ?_⟩; rotate_left; (· (have d0 := hW.kc g0; have d1 := hW.kc g1; have d2 := hW.kc g2; have d3 := hW.kc g3; have d4 := hW.kc e1; have d5 := hW.kc e2; go_simp; (try with_reducible rfl)))))); (try simp only [Act.put, zA, zB, zC]))
  clear g0 g1 g2 g3 e1 e2
  refine run_chain rfl rfl (by rfl) (fun Wi hWi K' hK => ?_)
  have HTi := zH (HT.out.trans hWi)
  have HZW := zH HTi.out.size
  clear hWi HT
  go_simp
  refine (RReefed_any ⟨cv0, mn0⟩ t _ _ (SL.go HX.out (HTW.out.trans HTi.out)) ⟨HCV.out.2.1, HCV.out.2.2⟩ HZ.out.2.2).mono ?_
  rintro e wn ⟨v2, rfl, hv2, hSn⟩
  have HT := zH (HTi.out.trans (StepX.of hSn))
  clear HTi
  obtain ⟨pr, cr, rfl⟩ := hv2.form
  have Hhv2 := zH (SL.go hv2 (Step.refl _))
  clear hv2
  refine hK _ _ (StepX.of hSn) ?_
  clear hSn
  (try simp only [Act.put, zA, zB, zC])
  have g0 := (HB.out.step HT.out).cell 0
  have g1 := (HB.out.step HT.out).cell 1
  have g2 := (HB.out.step HT.out).cell 2
  have g3 := (HB.out.step HT.out).cell 3
  have e1 := HT.out.kc HE.out.1
  have e2 := HT.out.kc HE.out.2
  simp only [zD, zE] at g0 g1 g2 g3
  repeat ((first | (refine run_off rfl rfl (by rfl) ?_) | (refine run_chain_off rfl rfl (by rfl) (K0_mono _) ?_) | ((refine run_want rfl rfl (by rfl) ⟨?_, fun W hW => ?_, ?_⟩; rotate_left; (· (have d0 := hW.kc g0; have d1 := hW.kc g1; have d2 := hW.kc g2; have d3 := hW.kc g3; have d4 := hW.kc e1; have d5 := hW.kc e2; go_simp; (try with_reducible rfl)))))); (try simp only [Act.put, zA, zB, zC]))
  clear g0 g1 g2 g3 e1 e2
  refine run_chain rfl rfl (by rfl) (fun Wi hWi K' hK => ?_)
  have HTi := zH (HT.out.trans hWi)
  have h1i := zH (SL.go Hhv2.out hWi)
  clear hWi HT Hhv2
  go_simp
  refine (RWindS_any s k hlt _ _ (AV.go HAV.out (HTW.out.trans HTi.out)) HOK.out.corners HLV.out.2 (by have := HBS.out; omega)).mono ?_
  rintro e wn ⟨v5, rfl, hv5, hSn⟩
  have HT := zH (HTi.out.trans (StepX.of hSn))
  have Hhv2 := zH (SL.go h1i.out hSn)
  have HZI := zH HTi.out.size
  clear HTi h1i
  obtain ⟨pw, cw, rfl⟩ := hv5.form
  have Hhv5 := zH (SL.go hv5 (Step.refl _))
  clear hv5
  refine hK _ _ (StepX.of hSn) ?_
  clear hSn
  (try simp only [Act.put, zA, zB, zC])
  have g0 := (HB.out.step HT.out).cell 0
  have g1 := (HB.out.step HT.out).cell 1
  have g2 := (HB.out.step HT.out).cell 2
  have g3 := (HB.out.step HT.out).cell 3
  have e1 := HT.out.kc HE.out.1
  have e2 := HT.out.kc HE.out.2
  simp only [zD, zE] at g0 g1 g2 g3
  repeat ((first | (refine run_off rfl rfl (by rfl) ?_) | (refine run_chain_off rfl rfl (by rfl) (K0_mono _) ?_) | ((refine run_want rfl rfl (by rfl) ⟨?_, fun W hW => ?_, ?_⟩; rotate_left; (· (have d0 := hW.kc g0; have d1 := hW.kc g1; have d2 := hW.kc g2; have d3 := hW.kc g3; have d4 := hW.kc e1; have d5 := hW.kc e2; go_simp; (try with_reducible rfl)))))); (try simp only [Act.put, zA, zB, zC]))
  clear g0 g1 g2 g3 e1 e2
  refine run_chain rfl rfl (by rfl) (fun Wi hWi K' hK => ?_)
  have HTi := zH (HT.out.trans hWi)
  have h1i := zH (SL.go Hhv2.out hWi)
  have h2i := zH (SL.go Hhv5.out hWi)
  clear hWi HT Hhv2 Hhv5
  go_simp
  refine (RWeakest_any (fun _ => False) l (reefL cv0 t) (blowL s.base s.levels[k].push) _ _ _ _ (SL.go HV.out (HTW.out.trans HTi.out)) h1i.out (SL.go h2i.out (Step.refl _)) HZ.out.1 (tent_all (reef_tent ⟨HCV.out.2.1, HCV.out.2.2⟩ HZ.out.2.2)) HWB.out.1).mono ?_
  rintro e wn ⟨rfl, hSn⟩
  have HT := zH (HTi.out.trans (StepX.of hSn))
  have Hhv2 := zH (SL.go h1i.out hSn)
  have Hhv5 := zH (SL.go h2i.out hSn)
  have HZI := zH HTi.out.size
  clear HTi h1i h2i
  clear Hhv2 Hhv5
  refine hK _ _ (StepX.of hSn) ?_
  clear hSn
  (try simp only [Act.put, zA, zB, zC])
  repeat ((first | (refine run_off rfl rfl (by rfl) ?_) | (refine run_chain_off rfl rfl (by rfl) (K0_mono _) ?_) | ((refine run_want rfl rfl (by rfl) ⟨?_, fun W hW => ?_, ?_⟩; rotate_left; (· (skip; go_simp; (try with_reducible rfl)))))); (try simp only [Act.put, zA, zB, zC]))
  refine run_end (L := []) rfl (fun W6 hW6 => ?_)
  have HT6 := zH (HTW.out.trans (HT.out.trans hW6))
  clear hW6 HT HB HE HTW
  have HE := HE0
  have HB := HB0
  have HT := HT6
  have hws := weak_stand (l := l) (t := reefL cv0 t) (wind := blowL s.base s.levels[k].push)
  obtain ⟨r1, hr1⟩ : ∃ r, r = (weakP l (reefL cv0 t) (blowL s.base s.levels[k].push)).1 := ⟨_, rfl⟩
  rw [← hr1] at hws ⊢
  clear hr1 HE0 HB0 HT6
  cases q : standB l (reefL cv0 t) (blowL s.base s.levels[k].push) with
  | true =>
   rw [q] at hws
   simp only [Bool.not_true] at hws
   have HQ := zH q
   clear q
   obtain ⟨q1, d1, bb, oo, he, _, _, hp, hc, _⟩ := (SL.go HV1.out HT.out).lvls
   injection he with he1 _ he3
   subst he1 he3
   obtain rfl := hp (by omega)
   obtain ⟨e1, e2⟩ := hc k hlt
   have hix : (0 : Int) ≤ (k : Int) ∧ (k : Int) < (s.levels.length : Int) := by omega
   have g1 := (HB.out.step HT.out).cell 1
   simp only [zD, zE] at g1
   rw [← HUP.out] at e1
   clear hp hc e2
   go_wp2
   go_roundw
   case rel => exact ⟨k + 1, by omega, by go_num, rfl, fun j hj hl => if e : j = k then by subst e; exact HQ.out else HA.out j (by omega) hl, HT.out⟩
   case measure => simp [intOf]; omega
  | false =>
   rw [q] at hws
   simp only [Bool.not_false] at hws
   have HQ := zH (standN_is s.levels k hk HA.out fun _ => q)
   clear q
   go_wp2
   go_ret
   exact ⟨by rw [HLZ.out, HQ.out]; rfl, HS.out.trans HT.out⟩
theorem infoFcG : (Tryz.prog.info? 107).map (fun i => (i.zero, i.size, i.bytes)) = some (some (.agg #[.string ⟨#[]⟩, .slice none 0 0]), 2, 40) := by kernel_rfl
theorem eiFcs : EI Tryz.prog 74 107 (.agg #[.string ⟨#[]⟩, .slice none 0 0]) 2 40 := .mk' Tryz.underlying74 infoFcG rfl
theorem siGSite : SI Tryz.prog 47 4 := ⟨⟨_, Tryz.underlying47⟩, by kernel_rfl⟩
theorem infoLvlG : (Tryz.prog.info? 124).map (fun i => (i.zero, i.size, i.bytes)) = some (some (.agg #[.int .i64 0, .int .i64 0]), 2, 16) := by kernel_rfl
theorem eiLvls : EI Tryz.prog 44 124 (.agg #[.int .i64 0, .int .i64 0]) 2 16 := .mk' Tryz.underlying44 infoLvlG rfl
theorem infoStgG : (Tryz.prog.info? 120).map (fun i => (i.zero, i.size, i.bytes)) = some (some (.agg #[.int .i64 0, .int .i64 0]), 2, 16) := by kernel_rfl
theorem eiStgs : EI Tryz.prog 45 120 (.agg #[.int .i64 0, .int .i64 0]) 2 16 := .mk' Tryz.underlying45 infoStgG rfl
theorem SiteL_any (S : Nat → Prop) (s : Site) (v : Value) (w : World) (hv : AV S w v s) (f0 : s.base.length ≤ 1000) (f1 : s.levels.length ≤ 1000) (f2 : s.stages.length ≤ 1000) :
  Calls Tryz.prog 14 #[v] w fun e w' => ∃ v', e = .returned v' ∧ AV (Old w) w' v' s ∧ Step w w' := by
 obtain ⟨c0, c1, c2, rfl, h0, h1, h2⟩ := hv.site
 obtain ⟨p0, k0, rfl⟩ := h0.form
 obtain ⟨p1, k1, b1, o1, rfl, _, m1, hp1, hc1, _⟩ := h1.lvls
 obtain ⟨p2, k2, b2, o2, rfl, _, m2, hp2, hc2, _⟩ := h2.stgs
 obtain ⟨W0, hW0⟩ : ∃ W, W = (w.alloc (.cells #[.slice p0 s.base.length k0, .slice p1 s.levels.length k1, .slice p2 s.stages.length k2, .int .i64 s.openS] 29)).alloc (.cells #[.slice none 0 0, .slice none 0 0, .slice none 0 0, .int .i64 0] 47) := ⟨_, rfl⟩
 have hS : Step w W0 := by subst hW0; exact (by with_reducible repeat (first | assumption | exact Step.refl _ | apply Step.s_alloc | apply Step.s_drew | apply Step.s_drewN | refine Step.trans ?_ (by assumption)))
 have HBX := zH (show Bx W0 w.heap.size [.slice p0 s.base.length k0, .slice p1 s.levels.length k1, .slice p2 s.stages.length k2, .int .i64 s.openS] 29 by subst hW0; exact (Bx.new w [_, _, _, _] _).step (Step.alloc _ _))
 have HBR := zH (show Bx W0 (w.heap.size + 1) [.slice none 0 0, .slice none 0 0, .slice none 0 0, .int .i64 0] 47 by subst hW0; exact Bx.new' _ [_, _, _, _] _ _ (by simp))
 have HZ := zH (show W0.heap.size = w.heap.size + 2 by subst hW0; simp)
 have HW := zH hW0
 have HS := zH hS
 have HV0 := zH (h0.keep (Keeps.of_step hS))
 have H1 := zH (And.intro hp1 hc1)
 have H2 := zH (And.intro hp2 hc2)
 clear hv h0 h1 h2 hp1 hc1 hp2 hc2 hW0 hS
 go_enter Tryz.func14, Tryz.ntmps14
 go_upto_region 1 with (fail)
 rw [← HW.out]
 go_cut [3] (fun s3 wx => ∃ g q0, s3 = .pointer (some ⟨g, 0, none⟩) ∧ w.heap.size + 2 ≤ g ∧ Bx wx g [q0, .slice none 0 0, .slice none 0 0, .int .i64 s.openS] 47 ∧ SL (fun j => j < w.heap.size + 2 ∨ j = g) wx q0 s.base ∧ Step W0 wx)
 case first =>
  refine wp_region_seq (kdOf [2] [(6, 47, .agg #[.slice none 0 0, .slice none 0 0, .slice none 0 0, .int .i64 0])]) [0, 1, 3, 0, 8, 31, 0, 127] [0, 1, 3, 4, 2, 5, 6] [7] (by kernel_rfl) (by kernel_rfl) (fun i T z hi hk => by simp only [List.mem_cons, List.not_mem_nil, or_false] at hi; rcases hi with rfl | rfl | rfl | rfl | rfl | rfl | rfl <;> simp [kdOf] at hk <;> (obtain ⟨rfl, rfl⟩ := hk; first | (show Option.bind _ _ = some _; kernel_rfl) | (refine ⟨_, rfl, fun _ _ => ?_⟩; go_simp))) ?_
  intro Wx hWx
  have HT := zH ((Step.refl W0).trans hWx)
  clear hWx
  have b0 := (HBX.out.step HT.out).cell 0
  have b3 := (HBX.out.step HT.out).cell 3
  simp only [zD, zE] at b0 b3
  repeat ((first | (refine run_off rfl rfl (by rfl) ?_) | (refine run_chain_off rfl rfl (by rfl) (K0_mono _) ?_) | ((refine run_want rfl rfl (by rfl) ⟨?_, fun W hW => ?_, ?_⟩; rotate_left; (· (have d0 := hW.kc b0; have d1 := hW.kc b3; go_simp; (try with_reducible rfl)))))); (try simp only [Act.put, zA, zB, zC]))
  clear b0 b3
  refine run_chain rfl rfl (by rfl) (fun W1 hW1 K' hK => ?_)
  have HT1 := zH (HT.out.trans hW1)
  have HV1 := zH (HV0.out.keep (Keeps.of_step (HT.out.trans hW1)))
  clear hW1 HT
  go_simp
  refine (Wind_any _ _ _ _ HV1.out f0).mono ?_
  rintro e w1 ⟨v1, rfl, hv1, hSn⟩
  obtain ⟨r1, n1, rfl⟩ := hv1.form
  have HQ := zH (And.intro hv1 hSn)
  have HT := zH (HT1.out.trans hSn)
  refine hK _ _ hSn ?_
  clear hv1 hSn
  (try simp only [Act.put, zA, zB, zC])
  have b0 := (HBX.out.step HT.out).cell 0
  have b3 := (HBX.out.step HT.out).cell 3
  simp only [zD, zE] at b0 b3
  repeat ((first | (refine run_off rfl rfl (by rfl) ?_) | (refine run_chain_off rfl rfl (by rfl) (K0_mono _) ?_) | ((refine run_want rfl rfl (by rfl) ⟨?_, fun W hW => ?_, ?_⟩; rotate_left; (· (have d0 := hW.kc b0; have d1 := hW.kc b3; go_simp; (try with_reducible rfl)))))); (try simp only [Act.put, zA, zB, zC]))
  clear b0 b3
  refine run_alloc rfl rfl (fun W5 g hW5 hg hgb hgN => ?_)
  (try simp only [Act.put, zA, zB, zC])
  refine run_end (L := [_]) rfl (fun W6 hW6 => ?_)
  have hb6 := Bx.step (w := W5) (cs := [_, _, _, _]) hg hW6
  refine wpl_store (v := .agg #[.slice r1 s.base.length n1, .slice none 0 0, .slice none 0 0, .int .i64 s.openS]) rfl _ _ _ rfl rfl rfl hb6 (by kernel_rfl) (by simp [Value.cells]) (by simp [Value.cells, Value.oneCell']) [.slice r1 s.base.length n1, .slice none 0 0, .slice none 0 0, .int .i64 s.openS] rfl (fun w7 hb7 hw7 => ?_)
  have n2 := hgN.2
  have z0 := HZ.out
  have z1 := HT1.out.size
  have z2 := HQ.out.2.size
  have z5 := hW5.size
  have q1 := SL.later (S := fun j => j < w.heap.size + 2 ∨ j = g) (w' := w7) HQ.out.1 (fun j hj hs => by omega) ((Keeps.of_step (hW5.trans hW6)).trans (Keeps.wrote hw7 (.inr rfl)))
  have q5 := Step.wrote (HT.out.trans (hW5.trans hW6)) hw7 hgb
  have HF := zH (And.intro hb7 (And.intro q1 (And.intro q5 hgb)))
  clear hb6 hb7 hw7 q1 q5 hW5 hW6 hg hgN n2 hgb
  go_wp2_with fail
  go_meet
  exact ⟨g, _, rfl, by have := HF.out.2.2.2; omega, HF.out.1, HF.out.2.1, HF.out.2.2.1⟩
 case rest =>
  obtain ⟨g, q0, rfl, hg2, hbg, hq0, htc⟩ := hcut
  obtain ⟨r0, n0, rfl⟩ := hq0.form
  have HG := zH hg2
  have HBG := zH hbg
  have HQ0 := zH hq0
  have HTC := zH htc
  clear hg2 hbg hq0 htc
  go_upto_region 3 with (fail)
  go_loopw [4] (fun i wr => ∃ (k : Nat) (q : Value), k ≤ s.levels.length ∧ i = .int .i64 k ∧ Bx wr g [.slice r0 s.base.length n0, q, .slice none 0 0, .int .i64 s.openS] 47 ∧ OwnL (fun _ => False) wc.heap.size 124 wr q (s.levels.take k) ∧ StepX (fun x => x = g) wc wr) (fun i _ => s.levels.length - (intOf i).toNat)
  case atStart => exact ⟨0, _, Nat.zero_le _, rfl, HBG.out, OwnL.nil _ _ _ _, StepX.refl _ _⟩
  case round =>
   obtain ⟨k, q, hk, rfl, hbj, hoj, hX⟩ := hrel
   have HBJ := zH hbj
   have HOJ := zH hoj
   have HX := zH hX
   obtain ⟨LL, hLL⟩ : ∃ L, L = s.levels.take k := ⟨_, rfl⟩
   rw [← hLL] at hoj
   obtain ⟨pq, cq, rfl, _⟩ := hoj.form
   have HNE := zH (show (Value.slice pq LL.length cq).ownBlock ≠ some g from fun e => by have := (hoj.lt _ e).1; have := HBG.out.lt; omega)
   have HLL := zH hLL
   clear hbj hoj hX hLL
   have hcell : ∀ b o u, W0.cell? ⟨b, o, none⟩ = some u → wr.cell? ⟨b, o, none⟩ = some u := fun b o u hu => HX.out.keeps.cell (a := ⟨b, o, none⟩) (by have := World.block_lt_of_cell? W0 _ hu; have := HG.out; have := HZ.out; show ¬ b = g; dsimp only at *; omega) (HTC.out.kc hu)
   have x1 := HBX.out.cell 1
   simp only [zD, zE] at x1
   have x1 := hcell _ _ _ x1
   by_cases hlt : k < s.levels.length
   ·obtain rfl := H1.out.1 (by omega)
    obtain ⟨g1, g2⟩ := H1.out.2 k hlt
    have g1 := hcell _ _ _ (HS.out.kc g1)
    have g2 := hcell _ _ _ (HS.out.kc g2)
    have m := HBJ.out.cell 1
    simp only [zD, zE] at m
    have hjx : (0 : Int) ≤ (k : Int) ∧ (k : Int) < (s.levels.length : Int) := by omega
    obtain ⟨y, hy⟩ : ∃ y, y = s.levels[k] := ⟨_, rfl⟩
    rw [← hy] at g1 g2
    have HY := zH hy
    have HE := zH (And.intro x1 (And.intro g1 (And.intro g2 m)))
    clear hcell hy
    go_upto_region 5 with (fail)
    clear x1 g1 g2 m
    refine wp_region_seq (kdOf [15] []) [0, 1, 0, 4, 0, 28, 60, 124, 0, 256, 0, 1792, 3840, 7936, 16380, 32764, 65535, 131071, 262143] [0, 1, 2, 3, 4, 5, 6, 7, 8, 9, 10, 11, 12, 13, 14, 15] [16, 17, 18] (by kernel_rfl) (by kernel_rfl) (fun i T z hi hk => by simp [kdOf] at hk <;> (try (split at hk <;> cases hk))) ?_
    intro Wx hWx
    have HT := zH ((Step.refl wr).trans hWx)
    clear hWx
    have x1 := HT.out.kc HE.out.1
    have g1 := HT.out.kc HE.out.2.1
    have g2 := HT.out.kc HE.out.2.2.1
    have m := HT.out.kc HE.out.2.2.2
    repeat ((first | (refine run_off rfl rfl (by rfl) ?_) | (refine run_chain_off rfl rfl (by rfl) (K0_mono _) ?_) | ((refine run_want rfl rfl (by rfl) ⟨?_, fun W hW => ?_, ?_⟩; rotate_left; (· (have d0 := hW.kc x1; have d1 := hW.kc g1; have d2 := hW.kc g2; have d3 := hW.kc m; go_simp; (try with_reducible rfl)))))); (try simp only [Act.put, zA, zB, zC]))
    clear x1 g1 g2 m
    refine run_chain rfl rfl (by rfl) (fun W1 hW1 K' hK' => ?_)
    go_simp
    refine hK' _ _ (.of (Step.alloc _ _)) ?_
    (try simp only [Act.put, zA, zB, zC])
    refine run_end (L := [_, _, _]) rfl (fun W2 hW2 => ?_)
    have hST := HT.out.trans hW1
    have hown2 := ((HOJ.out.step hST).alloc (.cells #[.int .i64 y.upto, .int .i64 y.push] 124)).step hW2
    have hu := (SLe.one (S := avoid (fun _ => False) (.slice pq LL.length cq)) (w := W1) (cs := [.int .i64 y.upto, .int .i64 y.push]) (x := y) 124 rfl).step hW2
    rw [show [y] = [s.levels[k]] by rw [HY.out]] at hu
    have b3 := ((HBJ.out.step hST).alloc (.cells #[.int .i64 y.upto, .int .i64 y.push] 124)).step hW2
    have hX2 := ((HX.out.trans (.of hST)).alloc' (.cells #[.int .i64 y.upto, .int .i64 y.push] 124)).trans (.of hW2)
    clear hW1 hW2 hK' hST
    go_wp2_with (at_builtin; refine wpl_append1 (W0 := W2) (l := s.levels) (k := k) eiLvls rfl _ _ rfl rfl rfl hown2 hlt (by omega) (by decide) hu (Below.refl _ _) hX2.size ?_)
    intro p' c' w3 hown3 _ hg
    have b4 := b3.keep (S := fun j => (Value.slice pq LL.length cq).ownBlock = some j) (.grown hg fun j hj _ => hj) HNE.out
    have m := b4.cell 1
    simp only [zD, zE] at m
    have z1 := b4.frozen 1
    have yl := b4.lt
    have hX3 : StepX (fun x => x = g) wc w3 := hX2.over (X := fun j => (Value.slice pq LL.length cq).ownBlock = some j) (.grown hg fun j hj _ => hj) fun j hj => .inl (HOJ.out.lt j hj).1
    have hn3 : (Value.slice p' (k + 1) c').ownBlock ≠ some g := fun e => by have := (hown3.lt _ e).1; have := HBG.out.lt; omega
    have H3 := zH (And.intro hown3 (And.intro b4 (And.intro hX3 hn3)))
    clear hown2 hu b3 hX2 hown3 hg b4 hX3 hn3
    go_wp2
    go_roundw
    case rel => exact ⟨k + 1, _, by omega, by go_num, H3.out.2.1.setCell 1 _, ownL_flat _ ((ownL_flat (fun j => j = g) H3.out.1).wrote (.setCell _ _ _ _) rfl H3.out.2.2.2), H3.out.2.2.1.setCell ⟨g, 1, none⟩ _ rfl⟩
    case measure => simp [intOf]; omega
   ·have HN2 := zH (show LL = s.levels by rw [HLL.out, List.take_of_length_le (by omega)])
    have hst := HX.out
    have hog := HOJ.out
    rw [← HLL.out, HN2.out] at hog
    have hbg := HBJ.out
    rw [HN2.out] at hbg
    have hq0 := HQ0.out.keep (HX.out.keeps.mono fun j _ hj => .inr hj)
    have hq1 := (ownL_flat (fun j => j < w.heap.size + 2 ∨ j = g) hog).sl (S := fun j => j < w.heap.size + 2 ∨ j = g) fun g' h1 h2 ha => by have := HBG.out.lt; have := HTC.out.size; have := HZ.out; omega
    have htw : StepX (fun x => x = g) W0 wr := (StepX.of HTC.out).trans HX.out
    clear HBG HQ0 HTC
    have HBG := zH hbg
    have HQ0 := zH hq0
    have HQ1 := zH hq1
    have HTC := zH htw
    obtain ⟨wd, hwd⟩ : ∃ W, W = wr := ⟨_, rfl⟩
    subst hwd
    clear hst hog hbg hq0 hq1 htw HX HBJ HOJ HNE hcell
    go_upto_region 7 with (fail)
    clear hlt hk x1
    go_loopw [5] (fun i wr => ∃ (k : Nat) (q : Value), k ≤ s.stages.length ∧ i = .int .i64 k ∧ Bx wr g [.slice r0 s.base.length n0, .slice pq s.levels.length cq, q, .int .i64 s.openS] 47 ∧ OwnL (fun _ => False) wd.heap.size 120 wr q (s.stages.take k) ∧ StepX (fun x => x = g) wd wr) (fun i _ => s.stages.length - (intOf i).toNat)
    case atStart => exact ⟨0, _, Nat.zero_le _, rfl, HBG.out, OwnL.nil _ _ _ _, StepX.refl _ _⟩
    case round =>
     obtain ⟨k, q, hk, rfl, hbj, hoj, hX⟩ := hrel
     have HBJ := zH hbj
     have HOJ := zH hoj
     have HX := zH hX
     obtain ⟨LL, hLL⟩ : ∃ L, L = s.stages.take k := ⟨_, rfl⟩
     rw [← hLL] at hoj
     obtain ⟨pu, cu, rfl, _⟩ := hoj.form
     have HNE := zH (show (Value.slice pu LL.length cu).ownBlock ≠ some g from fun e => by have := (hoj.lt _ e).1; have := HBG.out.lt; omega)
     have HLL := zH hLL
     clear hbj hoj hX hLL
     have hcell : ∀ b o u, W0.cell? ⟨b, o, none⟩ = some u → wr.cell? ⟨b, o, none⟩ = some u := fun b o u hu => HX.out.keeps.cell (a := ⟨b, o, none⟩) (by have := World.block_lt_of_cell? W0 _ hu; have := HG.out; have := HZ.out; show ¬ b = g; dsimp only at *; omega) (HTC.out.keeps.cell (a := ⟨b, o, none⟩) (by have := World.block_lt_of_cell? W0 _ hu; have := HG.out; have := HZ.out; show ¬ b = g; dsimp only at *; omega) hu)
     have x1 := HBX.out.cell 2
     simp only [zD, zE] at x1
     have x1 := hcell _ _ _ x1
     by_cases hlt : k < s.stages.length
     ·obtain rfl := H2.out.1 (by omega)
      obtain ⟨g1, g2⟩ := H2.out.2 k hlt
      have g1 := hcell _ _ _ (HS.out.kc g1)
      have g2 := hcell _ _ _ (HS.out.kc g2)
      have m := HBJ.out.cell 2
      simp only [zD, zE] at m
      have hjx : (0 : Int) ≤ (k : Int) ∧ (k : Int) < (s.stages.length : Int) := by omega
      obtain ⟨y, hy⟩ : ∃ y, y = s.stages[k] := ⟨_, rfl⟩
      rw [← hy] at g1 g2
      have HY := zH hy
      have HE := zH (And.intro x1 (And.intro g1 (And.intro g2 m)))
      clear hcell hy
      go_upto_region 9 with (fail)
      clear x1 g1 g2 m
      refine wp_region_seq (kdOf [15] []) [0, 1, 0, 4, 0, 28, 60, 124, 0, 256, 0, 1792, 3840, 7936, 16380, 32764, 65535, 131071, 262143] [0, 1, 2, 3, 4, 5, 6, 7, 8, 9, 10, 11, 12, 13, 14, 15] [16, 17, 18] (by kernel_rfl) (by kernel_rfl) (fun i T z hi hk => by simp [kdOf] at hk <;> (try (split at hk <;> cases hk))) ?_
      intro Wx hWx
      have HT := zH ((Step.refl wr).trans hWx)
      clear hWx
      have x1 := HT.out.kc HE.out.1
      have g1 := HT.out.kc HE.out.2.1
      have g2 := HT.out.kc HE.out.2.2.1
      have m := HT.out.kc HE.out.2.2.2
      repeat ((first | (refine run_off rfl rfl (by rfl) ?_) | (refine run_chain_off rfl rfl (by rfl) (K0_mono _) ?_) | ((refine run_want rfl rfl (by rfl) ⟨?_, fun W hW => ?_, ?_⟩; rotate_left; (· (have d0 := hW.kc x1; have d1 := hW.kc g1; have d2 := hW.kc g2; have d3 := hW.kc m; go_simp; (try with_reducible rfl)))))); (try simp only [Act.put, zA, zB, zC]))
      clear x1 g1 g2 m
      refine run_chain rfl rfl (by rfl) (fun W1 hW1 K' hK' => ?_)
      go_simp
      refine hK' _ _ (.of (Step.alloc _ _)) ?_
      (try simp only [Act.put, zA, zB, zC])
      refine run_end (L := [_, _, _]) rfl (fun W2 hW2 => ?_)
      have hST := HT.out.trans hW1
      have hown2 := ((HOJ.out.step hST).alloc (.cells #[.int .i64 y.cover, .int .i64 y.minutes] 120)).step hW2
      have hu := (SLe.one (S := avoid (fun _ => False) (.slice pu LL.length cu)) (w := W1) (cs := [.int .i64 y.cover, .int .i64 y.minutes]) (x := y) 120 rfl).step hW2
      rw [show [y] = [s.stages[k]] by rw [HY.out]] at hu
      have b3 := ((HBJ.out.step hST).alloc (.cells #[.int .i64 y.cover, .int .i64 y.minutes] 120)).step hW2
      have hX2 := ((HX.out.trans (.of hST)).alloc' (.cells #[.int .i64 y.cover, .int .i64 y.minutes] 120)).trans (.of hW2)
      clear hW1 hW2 hK' hST
      go_wp2_with (at_builtin; refine wpl_append1 (W0 := W2) (l := s.stages) (k := k) eiStgs rfl _ _ rfl rfl rfl hown2 hlt (by omega) (by decide) hu (Below.refl _ _) hX2.size ?_)
      intro p' c' w3 hown3 _ hg
      have b4 := b3.keep (S := fun j => (Value.slice pu LL.length cu).ownBlock = some j) (.grown hg fun j hj _ => hj) HNE.out
      have m := b4.cell 2
      simp only [zD, zE] at m
      have z1 := b4.frozen 2
      have yl := b4.lt
      have hX3 : StepX (fun x => x = g) wd w3 := hX2.over (X := fun j => (Value.slice pu LL.length cu).ownBlock = some j) (.grown hg fun j hj _ => hj) fun j hj => .inl (HOJ.out.lt j hj).1
      have hn3 : (Value.slice p' (k + 1) c').ownBlock ≠ some g := fun e => by have := (hown3.lt _ e).1; have := HBG.out.lt; omega
      have H3 := zH (And.intro hown3 (And.intro b4 (And.intro hX3 hn3)))
      clear hown2 hu b3 hX2 hown3 hg b4 hX3 hn3
      go_wp2
      go_roundw
      case rel => exact ⟨k + 1, _, by omega, by go_num, H3.out.2.1.setCell 2 _, ownL_flat _ ((ownL_flat (fun j => j = g) H3.out.1).wrote (.setCell _ _ _ _) rfl H3.out.2.2.2), H3.out.2.2.1.setCell ⟨g, 2, none⟩ _ rfl⟩
      case measure => simp [intOf]; omega
     ·have HN2 := zH (show LL = s.stages by rw [HLL.out, List.take_of_length_le (by omega)])
      have hog := HOJ.out
      rw [← HLL.out, HN2.out] at hog
      have hbg := HBJ.out
      rw [HN2.out] at hbg
      have hq0 := HQ0.out.keep (HX.out.keeps.mono fun j _ hj => .inr hj)
      have hq1 := HQ1.out.keep (HX.out.keeps.mono fun j _ hj => .inr hj)
      have hq2 := (ownL_flat (fun j => j < w.heap.size + 2 ∨ j = g) hog).sl (S := fun j => j < w.heap.size + 2 ∨ j = g) fun g' h1 h2 ha => by have := HBG.out.lt; have := HTC.out.size; have := HZ.out; omega
      have htw : StepX (fun x => x = g) W0 wr := HTC.out.trans HX.out
      have hbr := HBR.out.keep htw.keeps (by have := HG.out; show ¬ _ = g; omega)
      have hsw : Step w wr := StepX.fresh HS.out htw (fun j hj => by have := HG.out; omega)
      have HE := zH (And.intro hq0 (And.intro hq1 (And.intro hq2 (And.intro hbr hsw))))
      have m0 := hbg.cell 0
      have m1 := hbg.cell 1
      have m2 := hbg.cell 2
      have m3 := hbg.cell 3
      have t0 := hbr.cell 0
      have t1 := hbr.cell 1
      have t2 := hbr.cell 2
      have t3 := hbr.cell 3
      simp only [zD, zE] at m0 m1 m2 m3 t0 t1 t2 t3
      have tf0 := hbr.frozen 0
      have tf1 := hbr.frozen 1
      have tf2 := hbr.frozen 2
      have tf3 := hbr.frozen 3
      have yl := hbg.lt
      have yr := hbr.lt
      clear hog hbg hq0 hq1 hq2 htw hbr hsw HX HBJ HOJ HNE hcell
      go_wp2
      have b5 := set4 HE.out.2.2.2.1 (.slice r0 s.base.length n0) (.slice pq s.levels.length cq) (.slice pu s.stages.length cu) (.int .i64 s.openS)
      have hk5 := b5.2.keeps.mono (T := fun j => j < w.heap.size + 2 ∨ j = g) fun j _ hj => .inl (by omega)
      refine ret_struct (k := 4) rfl siGSite rfl b5.1 rfl rfl ⟨_, rfl, ⟨_, rfl, _, _, _, rfl, ?_, ?_, ?_⟩, StepX.fresh HE.out.2.2.2.2 b5.2 (fun j hj => by omega)⟩
      ·exact (HE.out.1.keep hk5).weak fun j _ hj => by unfold Old at hj; omega
      ·exact (HE.out.2.1.keep hk5).weak fun j _ hj => by unfold Old at hj; omega
      ·exact (HE.out.2.2.1.keep hk5).weak fun j _ hj => by unfold Old at hj; omega
  end Go.Proofs.YtfhmdpicoccnfaaGreat
