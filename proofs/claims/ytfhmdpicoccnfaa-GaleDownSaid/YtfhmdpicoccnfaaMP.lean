/- Walks and plain laws, part P. -/
import Derived.Test.YtfhmdpicoccnfaaMC
import Derived.Test.YtfhmdpicoccnfaaMD
import Derived.Test.YtfhmdpicoccnfaaMF
import Derived.Test.YtfhmdpicoccnfaaRows
import Derived.Lib.SlicesS
set_option maxHeartbeats 16000000
set_option maxRecDepth 100000
namespace Go.Proofs.Ytfhmdpicoccnfaa
set_option linter.unusedSimpArgs false
set_option linter.unusedVariables false
open Go.RowKit Go.BT
end Go.Proofs.Ytfhmdpicoccnfaa
namespace Go.BT
end Go.BT
namespace Go.Proofs.Ytfhmdpicoccnfaa
set_option linter.unusedSimpArgs false
set_option linter.unusedVariables false
open Go.RowKit Go.BT
end Go.Proofs.Ytfhmdpicoccnfaa
namespace Go.BT
def stRefB (l : List Stg) (i : Nat) : Bool := match l[i]? with
 | some x => withinB x.cover 0 100 && (decide (i + 1 = l.length) == decide (x.cover = 0)) && (match i with | 0 => true | j + 1 => match l[j]? with | some y => decide (x.cover < y.cover) | none => true) && (!decide (i + 1 = l.length) || decide (x.minutes = 0)) && (decide (i + 1 = l.length) || withinB x.minutes 1 240)
 | none => true
theorem site_ref (s : Site) : siteB s = (s.base.all baseB && (List.range s.levels.length).all (levelB s.levels) && (List.range s.stages.length).all (stRefB s.stages) && withinB s.base.length 1 12 && withinB s.levels.length 1 10 && withinB s.stages.length 2 8 && withinB s.openS 0 ((s.stages.length : Int) - 2)) := by
 rw [Bool.eq_iff_iff]
 unfold siteB
 simp only [Bool.and_eq_true, decide_eq_true_eq]
 constructor
 ·rintro ⟨⟨⟨⟨⟨⟨⟨h1, h2⟩, h3⟩, h4⟩, h5⟩, h6⟩, h7⟩, h8⟩
  refine ⟨⟨⟨⟨⟨⟨h2, h5⟩, ?_⟩, h1⟩, h3⟩, h4⟩, h8⟩
  have hn : 2 ≤ s.stages.length := by simp only [withinB, Bool.and_eq_true, decide_eq_true_eq] at h4; omega
  rw [List.all_eq_true] at h6 ⊢
  intro i hi
  rw [List.mem_range] at hi
  by_cases e : i + 1 = s.stages.length
  ·rw [show s.stages.length - 1 = i by omega, List.getElem?_eq_getElem hi] at h7
   have h7 := Option.some.inj h7
   have hp := h6 (i - 1) (by rw [List.mem_range]; omega)
   unfold stRefB
   rw [List.getElem?_eq_getElem hi]
   simp only [e, h7, decide_true, Bool.not_true, Bool.false_or, Bool.true_or, Bool.and_true, beq_self_eq_true]
   cases i with
   | zero => omega
   | succ j =>
    simp only [Nat.add_sub_cancel] at hp
    unfold stageB at hp
    rw [List.getElem?_eq_getElem (show j < s.stages.length by omega)] at hp
    simp only [Bool.and_eq_true, withinB, decide_eq_true_eq] at hp
    simp only [List.getElem?_eq_getElem (show j < s.stages.length by omega)]
    simp [withinB]; omega
  ·have hp := h6 i (by rw [List.mem_range]; omega)
   unfold stageB at hp
   unfold stRefB
   rw [List.getElem?_eq_getElem hi] at hp ⊢
   simp only [Bool.and_eq_true] at hp ⊢
   obtain ⟨⟨p1, p2⟩, p3⟩ := hp
   simp only [withinB, Bool.and_eq_true, decide_eq_true_eq] at p1
   refine ⟨⟨⟨⟨?_, ?_⟩, p3⟩, ?_⟩, ?_⟩
   ·simp [withinB]; omega
   ·rw [decide_eq_false e, decide_eq_false (by omega)]; rfl
   ·rw [decide_eq_false e]; rfl
   ·rw [decide_eq_false e, p2]; rfl
 ·rintro ⟨⟨⟨⟨⟨⟨h2, h5⟩, h6⟩, h1⟩, h3⟩, h4⟩, h8⟩
  have hn : 2 ≤ s.stages.length := by simp only [withinB, Bool.and_eq_true, decide_eq_true_eq] at h4; omega
  rw [List.all_eq_true] at h6
  refine ⟨⟨⟨⟨⟨⟨⟨h1, h2⟩, h3⟩, h4⟩, h5⟩, ?_⟩, ?_⟩, h8⟩
  ·rw [List.all_eq_true]
   intro i hi
   rw [List.mem_range] at hi
   have hi2 : i < s.stages.length := by omega
   have hp := h6 i (by rw [List.mem_range]; omega)
   unfold stRefB at hp
   unfold stageB
   rw [List.getElem?_eq_getElem hi2] at hp ⊢
   simp only [Bool.and_eq_true] at hp ⊢
   obtain ⟨⟨⟨⟨p1, p2⟩, p3⟩, p4⟩, p5⟩ := hp
   rw [decide_eq_false (show ¬ i + 1 = s.stages.length by omega)] at p2 p5
   simp only [Bool.false_or] at p5
   refine ⟨⟨?_, p5⟩, p3⟩
   simp only [withinB, Bool.and_eq_true, decide_eq_true_eq] at p1
   by_cases z : s.stages[i].cover = 0
   ·rw [decide_eq_true z] at p2; exact absurd p2 (by decide)
   ·simp [withinB]; omega
  ·have hp := h6 (s.stages.length - 1) (by rw [List.mem_range]; omega)
   unfold stRefB at hp
   rw [List.getElem?_eq_getElem (show s.stages.length - 1 < s.stages.length by omega)] at hp ⊢
   simp only [Bool.and_eq_true] at hp
   obtain ⟨⟨⟨⟨p1, p2⟩, p3⟩, p4⟩, p5⟩ := hp
   rw [decide_eq_true (show s.stages.length - 1 + 1 = s.stages.length by omega)] at p2 p4
   have z1 : s.stages[s.stages.length - 1].cover = 0 := by simpa using p2
   have z2 : s.stages[s.stages.length - 1].minutes = 0 := by simpa using p4
   obtain ⟨x, hx⟩ : ∃ x, x = s.stages[s.stages.length - 1] := ⟨_, rfl⟩
   rw [← hx] at z1 z2 ⊢
   obtain ⟨a, b⟩ := x
   dsimp only at z1 z2
   rw [z1, z2]
end Go.BT
namespace Go.Proofs.Ytfhmdpicoccnfaa
set_option linter.unusedSimpArgs false
set_option linter.unusedVariables false
open Go.RowKit Go.BT
theorem RightS_any (s : Site) (u : Value) (w : World) (hu : AV (fun _ => False) w u s) : Calls Try.prog 28 #[u] w fun e w' => e = .returned (.bool (siteB s)) ∧ Step w w' := by
 obtain ⟨c0, c1, c2, rfl, h0, h1, h2⟩ := hu.site
 have hm0 := h0.len
 have hm1 := h1.len
 have hm2 := h2.len
 obtain ⟨p0, k0, rfl⟩ := h0.form
 obtain ⟨p1, k1, rfl⟩ := h1.form
 obtain ⟨p2, k2, rfl⟩ := h2.form
 obtain ⟨W0, hW0⟩ : ∃ W, W = w.alloc (.cells #[.slice p0 s.base.length k0, .slice p1 s.levels.length k1, .slice p2 s.stages.length k2, .int .i64 s.openS] 55) := ⟨_, rfl⟩
 have hbx : Bx W0 w.heap.size [.slice p0 s.base.length k0, .slice p1 s.levels.length k1, .slice p2 s.stages.length k2, .int .i64 s.openS] 55 := by subst hW0; exact Bx.new w [_, _, _, _] _
 have hS : Step w W0 := by subst hW0; exact Step.alloc _ _
 have HB := zH hbx
 have HS := zH hS
 have HW := zH hW0
 have HV0 := zH (SL.go h0 hS)
 have HV1 := zH (SL.go h1 hS)
 have HV2 := zH (SL.go h2 hS)
 have HSR := zH (site_ref s)
 have HT := zH (Step.refl W0)
 have b0 := hbx.cell 0
 simp only [zD, zE] at b0
 clear hbx hS hW0 h0 h1 h2 hu
 go_enter Try.func28, Try.ntmps28
 go_upto_region 2 with (fail)
 rw [← HW.out]
 clear b0
 go_loopw [3] (fun i wr => ∃ k : Nat, k ≤ s.base.length ∧ i = .int .i64 k ∧ (∀ j (hj : j < k) (hl : j < s.base.length), baseB s.base[j] = true) ∧ Step W0 wr) (fun i _ => s.base.length - (intOf i).toNat)
 case atStart => exact ⟨0, Nat.zero_le _, rfl, fun j hj => absurd hj (by omega), HT.out⟩
 case round =>
  obtain ⟨k, hk, rfl, hall, hT⟩ := hrel
  have HA := zH hall
  have HTR := zH hT
  clear hall hT HT
  have b0 := (HB.out.step HTR.out).cell 0
  simp only [List.getElem?_cons_zero] at b0
  by_cases hlt : k < s.base.length
  ·obtain ⟨q1, d1, bb, oo, he, _, _, hp, hc, _⟩ := (SL.go HV0.out HTR.out).vecs
   injection he with he1 _ he3
   subst he1 he3
   obtain rfl := hp (by omega)
   obtain ⟨e1, e2⟩ := hc k hlt
   have hix : (0 : Int) ≤ (k : Int) ∧ (k : Int) < (s.base.length : Int) := by omega
   have HNO := zH (fun (h : baseB s.base[k] = false) => show siteB s = false by
    rw [HSR.out]
    have : s.base.all baseB = false := by rw [List.all_eq_false]; exact ⟨_, List.getElem_mem hlt, by rw [h]; decide⟩
    rw [this]; rfl)
   obtain ⟨x, hx⟩ : ∃ x, x = s.base[k] := ⟨_, rfl⟩
   rw [← hx] at e1 e2 HNO
   have HXX := zH hx
   obtain ⟨xa, xb⟩ := x
   dsimp only at e1 e2
   clear hp hc hx
   go_wp2_with fail
   refine (bigtopref01.In_any _ _ _ _).mono ?_
   rintro e wn ⟨rfl, rfl⟩
   cases q1 : withinB xa (-100) 100 with
   | false =>
    have HR := zH (HNO.out (by unfold baseB; rw [q1]; rfl))
    clear q1
    go_wp2
    go_ret
    exact ⟨by rw [HR.out]; rfl, HS.out.trans HTR.out⟩
   | true =>
   go_wp2_with fail
   refine (bigtopref01.In_any _ _ _ _).mono ?_
   rintro e wn ⟨rfl, rfl⟩
   cases q2 : withinB xb (-100) 100 with
   | false =>
    have HR := zH (HNO.out (by unfold baseB; rw [q1, q2]; rfl))
    clear q1 q2
    go_wp2
    go_ret
    exact ⟨by rw [HR.out]; rfl, HS.out.trans HTR.out⟩
   | true =>
    have HQ := zH (show baseB ⟨xa, xb⟩ = true by unfold baseB; rw [q1, q2]; rfl)
    clear q1 q2
    go_wp2
    go_roundw
    case rel => exact ⟨k + 1, by omega, by go_num, fun j hj hl => if e : j = k then by subst e; rw [← HXX.out]; exact HQ.out else HA.out j (by omega) hl, HTR.out⟩
    case measure => simp [intOf]; omega
  have HBW := zH (show s.base.all baseB = true by
   rw [List.all_eq_true]
   intro f hf
   obtain ⟨j, hj, rfl⟩ := List.getElem_of_mem hf
   exact HA.out j (by omega) hj)
  have b1 := (HB.out.step HTR.out).cell 1
  simp only [zD, zE] at b1
  go_upto_region 7 with (fail)
  clear hlt hk b0 b1 HA
  go_loopw [4] (fun i wr => ∃ k : Nat, k ≤ s.levels.length ∧ i = .int .i64 k ∧ (∀ j (hj : j < k) (hl : j < s.levels.length), levelB s.levels j = true) ∧ Step W0 wr) (fun i _ => s.levels.length - (intOf i).toNat)
  case atStart => exact ⟨0, Nat.zero_le _, rfl, fun j hj => absurd hj (by omega), HTR.out⟩
  case round =>
   obtain ⟨k, hk, rfl, hall, hT⟩ := hrel
   have HA := zH hall
   clear HTR
   have HTR := zH hT
   clear hall hT
   have b1 := (HB.out.step HTR.out).cell 1
   simp only [zD, zE] at b1
   by_cases hlt : k < s.levels.length
   ·obtain ⟨q1, d1, bb, oo, he, _, _, hp, hc, hbl⟩ := (SL.go HV1.out HTR.out).lvls
    injection he with he1 _ he3
    subst he1 he3
    obtain rfl := hp (by omega)
    obtain ⟨e1, e2⟩ := hc k hlt
    have hix : (0 : Int) ≤ (k : Int) ∧ (k : Int) < (s.levels.length : Int) := by omega
    have HPRE := zH (fun (j : Nat) (hj : j + 1 = k) => hc j (by omega))
    have HNO := zH (fun (h : levelB s.levels k = false) => show siteB s = false by
     rw [HSR.out]
     have : (List.range s.levels.length).all (levelB s.levels) = false := by rw [List.all_eq_false]; exact ⟨k, List.mem_range.2 hlt, by rw [h]; decide⟩
     rw [this, Bool.and_false]; rfl)
    have HLB := zH (show levelB s.levels k = (withinB s.levels[k].upto 0 1000 && withinB s.levels[k].push 0 100 && (match k with | 0 => true | j + 1 => match s.levels[j]? with | some y => decide (y.upto < s.levels[k].upto) && decide (y.push ≤ s.levels[k].push) | none => true)) by unfold levelB; rw [List.getElem?_eq_getElem hlt]; cases k <;> rfl)
    obtain ⟨x, hx⟩ : ∃ x, x = s.levels[k] := ⟨_, rfl⟩
    rw [← hx] at e1 e2 HLB
    obtain ⟨xu, xp⟩ := x
    dsimp only at e1 e2 HLB
    obtain ⟨W3, hW3⟩ : ∃ W, W = wr.alloc (.cells #[.int .i64 xu, .int .i64 xp] 134) := ⟨_, rfl⟩
    have HB3 := zH (show Bx W3 wr.heap.size [.int .i64 xu, .int .i64 xp] 134 by subst hW3; exact Bx.new wr [_, _] _)
    have HS3 := zH (show Step wr W3 by subst hW3; exact Step.alloc _ _)
    have HW3 := zH hW3
    have HT := zH (Step.refl W3)
    have HBC := zH ((HB.out.step (HTR.out.trans HS3.out)).cell 1)
    simp only [zD, zE] at HBC
    clear hp hc hbl hx hW3
    go_upto_region 10 with (fail)
    rw [← HW3.out]
    clear e1 e2 b1
    cases w1 : withinB xu 0 1000 with
    | false =>
     have HR := zH (HNO.out (by rw [HLB.out, w1]; rfl))
     refine wp_region_seq (kdOf [2, 7] []) (0 :: 1 :: 3 :: 7 :: 15 :: 31 :: 63 :: 127 :: 255 :: 511 :: 1023 :: 2047 :: 4095 :: 8191 :: 16383 :: 32767 :: 16383 :: 81919 :: 16383 :: 278527 :: 999423 :: 2047999 :: 4145151 :: 8388607 :: 16777215 :: 33554431 :: 67108863 :: 33554431 :: 167772159 :: 33554431 :: 570425343 :: 2046820351 :: 4194303999 :: 8489271295 :: 17179869183 :: 34359738367 :: 68719476735 :: 137438953471 :: []) (0 :: 1 :: 2 :: 3 :: 4 :: 5 :: 6 :: 7 :: 8 :: 9 :: 10 :: 11 :: 12 :: 13 :: 14 :: 15 :: 16 :: 17 :: 18 :: 19 :: 20 :: 21 :: 22 :: 23 :: 24 :: 25 :: 26 :: 27 :: 28 :: 29 :: 30 :: 31 :: 32 :: 33 :: 34 :: 35 :: 36 :: 37 :: []) [] (by kernel_rfl) (by kernel_rfl) (fun i T z hi hk => by simp [kdOf] at hk <;> (try (split at hk <;> cases hk))) ?_
     intro Wx hWx
     have HTx := zH (HT.out.trans hWx)
     clear hWx HT
     have HT := HTx
     clear HTx
     have x0 := (HB3.out.step HT.out).cell 0
     have x1 := (HB3.out.step HT.out).cell 1
     have b1 := HT.out.kc HBC.out
     simp only [zD, zE] at x0 x1
     repeat ((first | (refine run_off rfl rfl (by rfl) ?_) | (refine run_chain_off rfl rfl (by rfl) (K0_mono _) ?_) | ((refine run_want rfl rfl (by rfl) ⟨?_, fun W hW => ?_, ?_⟩; rotate_left; (· (have d0 := hW.kc x0; have d1 := hW.kc x1; have d2 := hW.kc b1; go_simp; (try with_reducible rfl)))))); (try simp only [Act.put, zA, zB, zC]))
     clear x0 x1 b1
     refine run_chain rfl rfl (by rfl) (fun Wi hWi K' hK => ?_)
     have HTi := zH (HT.out.trans hWi)
     clear hWi HT
     go_simp
     refine (bigtopref01.In_any _ _ _ _).mono ?_
     rintro e wn ⟨rfl, rfl⟩
     rw [w1]
     have HT := HTi
     clear HTi
     refine hK _ _ (StepX.refl _ _) ?_
     (try simp only [Act.put, zA, zB, zC])
     clear w1
     have x0 := (HB3.out.step HT.out).cell 0
     have x1 := (HB3.out.step HT.out).cell 1
     have b1 := HT.out.kc HBC.out
     simp only [zD, zE] at x0 x1
     repeat ((first | (refine run_off rfl rfl (by rfl) ?_) | (refine run_chain_off rfl rfl (by rfl) (K0_mono _) ?_) | ((refine run_want rfl rfl (by rfl) ⟨?_, fun W hW => ?_, ?_⟩; rotate_left; (· (have d0 := hW.kc x0; have d1 := hW.kc x1; have d2 := hW.kc b1; go_simp; (try with_reducible rfl)))))); (try simp only [Act.put, zA, zB, zC]))
     clear x0 x1 b1
     refine run_end (L := []) rfl (fun W6 hW6 => ?_)
     have HT6 := zH (HT.out.trans hW6)
     clear hW6 HT
     have HT := HT6
     clear HT6
     go_wp2
     go_ret
     exact ⟨by rw [HR.out]; rfl, HS.out.trans (HTR.out.trans (HS3.out.trans HT.out))⟩
    | true =>
    cases w2 : withinB xp 0 100 with
    | false =>
     have HR := zH (HNO.out (by rw [HLB.out, w1, w2]; rfl))
     refine wp_region_seq (kdOf [2, 7] []) (0 :: 1 :: 3 :: 7 :: 15 :: 31 :: 63 :: 127 :: 255 :: 511 :: 1023 :: 2047 :: 4095 :: 8191 :: 16383 :: 32767 :: 16383 :: 81919 :: 16383 :: 278527 :: 999423 :: 2047999 :: 4145151 :: 8388607 :: 16777215 :: 33554431 :: 67108863 :: 33554431 :: 167772159 :: 33554431 :: 570425343 :: 2046820351 :: 4194303999 :: 8489271295 :: 17179869183 :: 34359738367 :: 68719476735 :: 137438953471 :: []) (0 :: 1 :: 2 :: 3 :: 4 :: 5 :: 6 :: 7 :: 8 :: 9 :: 10 :: 11 :: 12 :: 13 :: 14 :: 15 :: 16 :: 17 :: 18 :: 19 :: 20 :: 21 :: 22 :: 23 :: 24 :: 25 :: 26 :: 27 :: 28 :: 29 :: 30 :: 31 :: 32 :: 33 :: 34 :: 35 :: 36 :: 37 :: []) [] (by kernel_rfl) (by kernel_rfl) (fun i T z hi hk => by simp [kdOf] at hk <;> (try (split at hk <;> cases hk))) ?_
     intro Wx hWx
     have HTx := zH (HT.out.trans hWx)
     clear hWx HT
     have HT := HTx
     clear HTx
     have x0 := (HB3.out.step HT.out).cell 0
     have x1 := (HB3.out.step HT.out).cell 1
     have b1 := HT.out.kc HBC.out
     simp only [zD, zE] at x0 x1
     repeat ((first | (refine run_off rfl rfl (by rfl) ?_) | (refine run_chain_off rfl rfl (by rfl) (K0_mono _) ?_) | ((refine run_want rfl rfl (by rfl) ⟨?_, fun W hW => ?_, ?_⟩; rotate_left; (· (have d0 := hW.kc x0; have d1 := hW.kc x1; have d2 := hW.kc b1; go_simp; (try with_reducible rfl)))))); (try simp only [Act.put, zA, zB, zC]))
     clear x0 x1 b1
     refine run_chain rfl rfl (by rfl) (fun Wi hWi K' hK => ?_)
     have HTi := zH (HT.out.trans hWi)
     clear hWi HT
     go_simp
     refine (bigtopref01.In_any _ _ _ _).mono ?_
     rintro e wn ⟨rfl, rfl⟩
     rw [w1]
     have HT := HTi
     clear HTi
     refine hK _ _ (StepX.refl _ _) ?_
     (try simp only [Act.put, zA, zB, zC])
     have x0 := (HB3.out.step HT.out).cell 0
     have x1 := (HB3.out.step HT.out).cell 1
     have b1 := HT.out.kc HBC.out
     simp only [zD, zE] at x0 x1
     repeat ((first | (refine run_off rfl rfl (by rfl) ?_) | (refine run_chain_off rfl rfl (by rfl) (K0_mono _) ?_) | ((refine run_want rfl rfl (by rfl) ⟨?_, fun W hW => ?_, ?_⟩; rotate_left; (· (have d0 := hW.kc x0; have d1 := hW.kc x1; have d2 := hW.kc b1; go_simp; (try with_reducible rfl)))))); (try simp only [Act.put, zA, zB, zC]))
     clear x0 x1 b1
     refine run_chain rfl rfl (by rfl) (fun Wi hWi K' hK => ?_)
     have HTi := zH (HT.out.trans hWi)
     clear hWi HT
     go_simp
     refine (bigtopref01.In_any _ _ _ _).mono ?_
     rintro e wn ⟨rfl, rfl⟩
     rw [w2]
     have HT := HTi
     clear HTi
     refine hK _ _ (StepX.refl _ _) ?_
     (try simp only [Act.put, zA, zB, zC])
     clear w1 w2
     have x0 := (HB3.out.step HT.out).cell 0
     have x1 := (HB3.out.step HT.out).cell 1
     have b1 := HT.out.kc HBC.out
     simp only [zD, zE] at x0 x1
     repeat ((first | (refine run_off rfl rfl (by rfl) ?_) | (refine run_chain_off rfl rfl (by rfl) (K0_mono _) ?_) | ((refine run_want rfl rfl (by rfl) ⟨?_, fun W hW => ?_, ?_⟩; rotate_left; (· (have d0 := hW.kc x0; have d1 := hW.kc x1; have d2 := hW.kc b1; go_simp; (try with_reducible rfl)))))); (try simp only [Act.put, zA, zB, zC]))
     clear x0 x1 b1
     refine run_end (L := []) rfl (fun W6 hW6 => ?_)
     have HT6 := zH (HT.out.trans hW6)
     clear hW6 HT
     have HT := HT6
     clear HT6
     go_wp2
     go_ret
     exact ⟨by rw [HR.out]; rfl, HS.out.trans (HTR.out.trans (HS3.out.trans HT.out))⟩
    | true =>
    cases k with
    | zero =>
     have d0 : decide (0 < ((0 : Nat) : Int)) = false := by decide
     have HLV := zH (show levelB s.levels (1 - 1) = true by rw [HLB.out, w1, w2]; rfl)
     refine wp_region_seq (kdOf [2, 7] []) (0 :: 1 :: 3 :: 7 :: 15 :: 31 :: 63 :: 127 :: 255 :: 511 :: 1023 :: 2047 :: 4095 :: 8191 :: 16383 :: 32767 :: 16383 :: 81919 :: 16383 :: 278527 :: 999423 :: 2047999 :: 4145151 :: 8388607 :: 16777215 :: 33554431 :: 67108863 :: 33554431 :: 167772159 :: 33554431 :: 570425343 :: 2046820351 :: 4194303999 :: 8489271295 :: 17179869183 :: 34359738367 :: 68719476735 :: 137438953471 :: []) (0 :: 1 :: 2 :: 3 :: 4 :: 5 :: 6 :: 7 :: 8 :: 9 :: 10 :: 11 :: 12 :: 13 :: 14 :: 15 :: 16 :: 17 :: 18 :: 19 :: 20 :: 21 :: 22 :: 23 :: 24 :: 25 :: 26 :: 27 :: 28 :: 29 :: 30 :: 31 :: 32 :: 33 :: 34 :: 35 :: 36 :: 37 :: []) [] (by kernel_rfl) (by kernel_rfl) (fun i T z hi hk => by simp [kdOf] at hk <;> (try (split at hk <;> cases hk))) ?_
     intro Wx hWx
     have HTx := zH (HT.out.trans hWx)
     clear hWx HT
     have HT := HTx
     clear HTx
     have x0 := (HB3.out.step HT.out).cell 0
     have x1 := (HB3.out.step HT.out).cell 1
     have b1 := HT.out.kc HBC.out
     simp only [zD, zE] at x0 x1
     repeat ((first | (refine run_off rfl rfl (by rfl) ?_) | (refine run_chain_off rfl rfl (by rfl) (K0_mono _) ?_) | ((refine run_want rfl rfl (by rfl) ⟨?_, fun W hW => ?_, ?_⟩; rotate_left; (· (have d0 := hW.kc x0; have d1 := hW.kc x1; have d2 := hW.kc b1; go_simp; (try with_reducible rfl)))))); (try simp only [Act.put, zA, zB, zC]))
     clear x0 x1 b1
     refine run_chain rfl rfl (by rfl) (fun Wi hWi K' hK => ?_)
     have HTi := zH (HT.out.trans hWi)
     clear hWi HT
     go_simp
     refine (bigtopref01.In_any _ _ _ _).mono ?_
     rintro e wn ⟨rfl, rfl⟩
     rw [w1]
     have HT := HTi
     clear HTi
     refine hK _ _ (StepX.refl _ _) ?_
     (try simp only [Act.put, zA, zB, zC])
     have x0 := (HB3.out.step HT.out).cell 0
     have x1 := (HB3.out.step HT.out).cell 1
     have b1 := HT.out.kc HBC.out
     simp only [zD, zE] at x0 x1
     repeat ((first | (refine run_off rfl rfl (by rfl) ?_) | (refine run_chain_off rfl rfl (by rfl) (K0_mono _) ?_) | ((refine run_want rfl rfl (by rfl) ⟨?_, fun W hW => ?_, ?_⟩; rotate_left; (· (have d0 := hW.kc x0; have d1 := hW.kc x1; have d2 := hW.kc b1; go_simp; (try with_reducible rfl)))))); (try simp only [Act.put, zA, zB, zC]))
     clear x0 x1 b1
     refine run_chain rfl rfl (by rfl) (fun Wi hWi K' hK => ?_)
     have HTi := zH (HT.out.trans hWi)
     clear hWi HT
     go_simp
     refine (bigtopref01.In_any _ _ _ _).mono ?_
     rintro e wn ⟨rfl, rfl⟩
     rw [w2]
     have HT := HTi
     clear HTi
     refine hK _ _ (StepX.refl _ _) ?_
     (try simp only [Act.put, zA, zB, zC])
     clear w1 w2
     have x0 := (HB3.out.step HT.out).cell 0
     have x1 := (HB3.out.step HT.out).cell 1
     have b1 := HT.out.kc HBC.out
     simp only [zD, zE] at x0 x1
     repeat ((first | (refine run_off rfl rfl (by rfl) ?_) | (refine run_chain_off rfl rfl (by rfl) (K0_mono _) ?_) | ((refine run_want rfl rfl (by rfl) ⟨?_, fun W hW => ?_, ?_⟩; rotate_left; (· (have d0 := hW.kc x0; have d1 := hW.kc x1; have d2 := hW.kc b1; go_simp; (try with_reducible rfl)))))); (try simp only [Act.put, zA, zB, zC]))
     clear x0 x1 b1
     refine run_end (L := []) rfl (fun W6 hW6 => ?_)
     have HT6 := zH (HT.out.trans hW6)
     clear hW6 HT
     have HT := HT6
     clear HT6
     go_wp2
     go_roundw
     case rel => exact ⟨1, by omega, by go_num, fun i hi hl => if e : i + 1 = 1 then by (obtain rfl : i = 1 - 1 := by omega); exact HLV.out else HA.out i (by omega) hl, HTR.out.trans (HS3.out.trans HT.out)⟩
     case measure => simp [intOf]; omega
    | succ j =>
     have hpre := HPRE.out j rfl
     obtain ⟨g1, g2⟩ := hpre
     have hjx : (0 : Int) ≤ (j : Int) ∧ (j : Int) < (s.levels.length : Int) := by omega
     have hwj : IntKind.i64.wrap (j : Int) = (j : Int) := by rw [IntKind.wrap_i64]; omega
     have hd0 : decide ((0 : Int) < ((j + 1 : Nat) : Int)) = true := decide_eq_true (by omega)
     have HLC := zH (show levelB s.levels (j + 1) = (decide (s.levels[j].upto < xu) && decide (s.levels[j].push ≤ xp)) by
      rw [HLB.out, w1, w2]
      simp only [List.getElem?_eq_getElem (show j < s.levels.length by omega), Bool.true_and])
     obtain ⟨y, hy⟩ : ∃ y, y = s.levels[j] := ⟨_, rfl⟩
     rw [← hy] at g1 g2 HLC
     obtain ⟨yu, yp⟩ := y
     dsimp only at g1 g2 HLC
     have HG := zH (And.intro (HS3.out.kc g1) (HS3.out.kc g2))
     clear g1 g2 hy
     by_cases c1 : xu ≤ yu
     ·have d1 : decide (xu ≤ yu) = true := decide_eq_true c1
      have HR := zH (HNO.out (by rw [HLC.out, decide_eq_false (by omega)]; rfl))
      clear c1
      refine wp_region_seq (kdOf [2, 7] []) (0 :: 1 :: 3 :: 7 :: 15 :: 31 :: 63 :: 127 :: 255 :: 511 :: 1023 :: 2047 :: 4095 :: 8191 :: 16383 :: 32767 :: 16383 :: 81919 :: 16383 :: 278527 :: 999423 :: 2047999 :: 4145151 :: 8388607 :: 16777215 :: 33554431 :: 67108863 :: 33554431 :: 167772159 :: 33554431 :: 570425343 :: 2046820351 :: 4194303999 :: 8489271295 :: 17179869183 :: 34359738367 :: 68719476735 :: 137438953471 :: []) (0 :: 1 :: 2 :: 3 :: 4 :: 5 :: 6 :: 7 :: 8 :: 9 :: 10 :: 11 :: 12 :: 13 :: 14 :: 15 :: 16 :: 17 :: 18 :: 19 :: 20 :: 21 :: 22 :: 23 :: 24 :: 25 :: 26 :: 27 :: 28 :: 29 :: 30 :: 31 :: 32 :: 33 :: 34 :: 35 :: 36 :: 37 :: []) [] (by kernel_rfl) (by kernel_rfl) (fun i T z hi hk => by simp [kdOf] at hk <;> (try (split at hk <;> cases hk))) ?_
      intro Wx hWx
      have HTx := zH (HT.out.trans hWx)
      clear hWx HT
      have HT := HTx
      clear HTx
      have x0 := (HB3.out.step HT.out).cell 0
      have x1 := (HB3.out.step HT.out).cell 1
      have b1 := HT.out.kc HBC.out
      simp only [zD, zE] at x0 x1
      repeat ((first | (refine run_off rfl rfl (by rfl) ?_) | (refine run_chain_off rfl rfl (by rfl) (K0_mono _) ?_) | ((refine run_want rfl rfl (by rfl) ⟨?_, fun W hW => ?_, ?_⟩; rotate_left; (· (have d0 := hW.kc x0; have d1 := hW.kc x1; have d2 := hW.kc b1; go_simp; (try with_reducible rfl)))))); (try simp only [Act.put, zA, zB, zC]))
      clear x0 x1 b1
      refine run_chain rfl rfl (by rfl) (fun Wi hWi K' hK => ?_)
      have HTi := zH (HT.out.trans hWi)
      clear hWi HT
      go_simp
      refine (bigtopref01.In_any _ _ _ _).mono ?_
      rintro e wn ⟨rfl, rfl⟩
      rw [w1]
      have HT := HTi
      clear HTi
      refine hK _ _ (StepX.refl _ _) ?_
      (try simp only [Act.put, zA, zB, zC])
      have x0 := (HB3.out.step HT.out).cell 0
      have x1 := (HB3.out.step HT.out).cell 1
      have b1 := HT.out.kc HBC.out
      simp only [zD, zE] at x0 x1
      repeat ((first | (refine run_off rfl rfl (by rfl) ?_) | (refine run_chain_off rfl rfl (by rfl) (K0_mono _) ?_) | ((refine run_want rfl rfl (by rfl) ⟨?_, fun W hW => ?_, ?_⟩; rotate_left; (· (have d0 := hW.kc x0; have d1 := hW.kc x1; have d2 := hW.kc b1; go_simp; (try with_reducible rfl)))))); (try simp only [Act.put, zA, zB, zC]))
      clear x0 x1 b1
      refine run_chain rfl rfl (by rfl) (fun Wi hWi K' hK => ?_)
      have HTi := zH (HT.out.trans hWi)
      clear hWi HT
      go_simp
      refine (bigtopref01.In_any _ _ _ _).mono ?_
      rintro e wn ⟨rfl, rfl⟩
      rw [w2]
      have HT := HTi
      clear HTi
      refine hK _ _ (StepX.refl _ _) ?_
      (try simp only [Act.put, zA, zB, zC])
      have g1 := HT.out.kc HG.out.1
      have g2 := HT.out.kc HG.out.2
      have x0 := (HB3.out.step HT.out).cell 0
      have x1 := (HB3.out.step HT.out).cell 1
      have b1 := HT.out.kc HBC.out
      simp only [zD, zE] at x0 x1
      repeat ((first | (refine run_off rfl rfl (by rfl) ?_) | (refine run_chain_off rfl rfl (by rfl) (K0_mono _) ?_) | ((refine run_want rfl rfl (by rfl) ⟨?_, fun W hW => ?_, ?_⟩; rotate_left; (· (have d0 := hW.kc x0; have d1 := hW.kc x1; have d2 := hW.kc b1; have d3 := hW.kc g1; have d4 := hW.kc g2; go_simp; (try with_reducible rfl)))))); (try simp only [Act.put, zA, zB, zC]))
      clear x0 x1 b1
      clear g1 g2 w1 w2
      refine run_end (L := []) rfl (fun W6 hW6 => ?_)
      have HT6 := zH (HT.out.trans hW6)
      clear hW6 HT
      have HT := HT6
      clear HT6
      go_wp2
      go_ret
      exact ⟨by rw [HR.out]; rfl, HS.out.trans (HTR.out.trans (HS3.out.trans HT.out))⟩
     have d1 : decide (xu ≤ yu) = false := decide_eq_false c1
     by_cases c2 : xp < yp
     ·have d2 : decide (xp < yp) = true := decide_eq_true c2
      have HR := zH (HNO.out (by rw [HLC.out, decide_eq_true (show yu < xu by omega), decide_eq_false (by omega)]; rfl))
      clear c1 c2
      refine wp_region_seq (kdOf [2, 7] []) (0 :: 1 :: 3 :: 7 :: 15 :: 31 :: 63 :: 127 :: 255 :: 511 :: 1023 :: 2047 :: 4095 :: 8191 :: 16383 :: 32767 :: 16383 :: 81919 :: 16383 :: 278527 :: 999423 :: 2047999 :: 4145151 :: 8388607 :: 16777215 :: 33554431 :: 67108863 :: 33554431 :: 167772159 :: 33554431 :: 570425343 :: 2046820351 :: 4194303999 :: 8489271295 :: 17179869183 :: 34359738367 :: 68719476735 :: 137438953471 :: []) (0 :: 1 :: 2 :: 3 :: 4 :: 5 :: 6 :: 7 :: 8 :: 9 :: 10 :: 11 :: 12 :: 13 :: 14 :: 15 :: 16 :: 17 :: 18 :: 19 :: 20 :: 21 :: 22 :: 23 :: 24 :: 25 :: 26 :: 27 :: 28 :: 29 :: 30 :: 31 :: 32 :: 33 :: 34 :: 35 :: 36 :: 37 :: []) [] (by kernel_rfl) (by kernel_rfl) (fun i T z hi hk => by simp [kdOf] at hk <;> (try (split at hk <;> cases hk))) ?_
      intro Wx hWx
      have HTx := zH (HT.out.trans hWx)
      clear hWx HT
      have HT := HTx
      clear HTx
      have x0 := (HB3.out.step HT.out).cell 0
      have x1 := (HB3.out.step HT.out).cell 1
      have b1 := HT.out.kc HBC.out
      simp only [zD, zE] at x0 x1
      repeat ((first | (refine run_off rfl rfl (by rfl) ?_) | (refine run_chain_off rfl rfl (by rfl) (K0_mono _) ?_) | ((refine run_want rfl rfl (by rfl) ⟨?_, fun W hW => ?_, ?_⟩; rotate_left; (· (have d0 := hW.kc x0; have d1 := hW.kc x1; have d2 := hW.kc b1; go_simp; (try with_reducible rfl)))))); (try simp only [Act.put, zA, zB, zC]))
      clear x0 x1 b1
      refine run_chain rfl rfl (by rfl) (fun Wi hWi K' hK => ?_)
      have HTi := zH (HT.out.trans hWi)
      clear hWi HT
      go_simp
      refine (bigtopref01.In_any _ _ _ _).mono ?_
      rintro e wn ⟨rfl, rfl⟩
      rw [w1]
      have HT := HTi
      clear HTi
      refine hK _ _ (StepX.refl _ _) ?_
      (try simp only [Act.put, zA, zB, zC])
      have x0 := (HB3.out.step HT.out).cell 0
      have x1 := (HB3.out.step HT.out).cell 1
      have b1 := HT.out.kc HBC.out
      simp only [zD, zE] at x0 x1
      repeat ((first | (refine run_off rfl rfl (by rfl) ?_) | (refine run_chain_off rfl rfl (by rfl) (K0_mono _) ?_) | ((refine run_want rfl rfl (by rfl) ⟨?_, fun W hW => ?_, ?_⟩; rotate_left; (· (have d0 := hW.kc x0; have d1 := hW.kc x1; have d2 := hW.kc b1; go_simp; (try with_reducible rfl)))))); (try simp only [Act.put, zA, zB, zC]))
      clear x0 x1 b1
      refine run_chain rfl rfl (by rfl) (fun Wi hWi K' hK => ?_)
      have HTi := zH (HT.out.trans hWi)
      clear hWi HT
      go_simp
      refine (bigtopref01.In_any _ _ _ _).mono ?_
      rintro e wn ⟨rfl, rfl⟩
      rw [w2]
      have HT := HTi
      clear HTi
      refine hK _ _ (StepX.refl _ _) ?_
      (try simp only [Act.put, zA, zB, zC])
      have g1 := HT.out.kc HG.out.1
      have g2 := HT.out.kc HG.out.2
      have x0 := (HB3.out.step HT.out).cell 0
      have x1 := (HB3.out.step HT.out).cell 1
      have b1 := HT.out.kc HBC.out
      simp only [zD, zE] at x0 x1
      repeat ((first | (refine run_off rfl rfl (by rfl) ?_) | (refine run_chain_off rfl rfl (by rfl) (K0_mono _) ?_) | ((refine run_want rfl rfl (by rfl) ⟨?_, fun W hW => ?_, ?_⟩; rotate_left; (· (have d0 := hW.kc x0; have d1 := hW.kc x1; have d2 := hW.kc b1; have d3 := hW.kc g1; have d4 := hW.kc g2; go_simp; (try with_reducible rfl)))))); (try simp only [Act.put, zA, zB, zC]))
      clear x0 x1 b1
      clear g1 g2 w1 w2
      refine run_end (L := []) rfl (fun W6 hW6 => ?_)
      have HT6 := zH (HT.out.trans hW6)
      clear hW6 HT
      have HT := HT6
      clear HT6
      go_wp2
      go_ret
      exact ⟨by rw [HR.out]; rfl, HS.out.trans (HTR.out.trans (HS3.out.trans HT.out))⟩
     have d2 : decide (xp < yp) = false := decide_eq_false c2
     have HLV := zH (show levelB s.levels (j + 1 + 1 - 1) = true by rw [Nat.add_sub_cancel, HLC.out, decide_eq_true (show yu < xu by omega), decide_eq_true (show yp ≤ xp by omega)]; rfl)
     clear c1 c2
     refine wp_region_seq (kdOf [2, 7] []) (0 :: 1 :: 3 :: 7 :: 15 :: 31 :: 63 :: 127 :: 255 :: 511 :: 1023 :: 2047 :: 4095 :: 8191 :: 16383 :: 32767 :: 16383 :: 81919 :: 16383 :: 278527 :: 999423 :: 2047999 :: 4145151 :: 8388607 :: 16777215 :: 33554431 :: 67108863 :: 33554431 :: 167772159 :: 33554431 :: 570425343 :: 2046820351 :: 4194303999 :: 8489271295 :: 17179869183 :: 34359738367 :: 68719476735 :: 137438953471 :: []) (0 :: 1 :: 2 :: 3 :: 4 :: 5 :: 6 :: 7 :: 8 :: 9 :: 10 :: 11 :: 12 :: 13 :: 14 :: 15 :: 16 :: 17 :: 18 :: 19 :: 20 :: 21 :: 22 :: 23 :: 24 :: 25 :: 26 :: 27 :: 28 :: 29 :: 30 :: 31 :: 32 :: 33 :: 34 :: 35 :: 36 :: 37 :: []) [] (by kernel_rfl) (by kernel_rfl) (fun i T z hi hk => by simp [kdOf] at hk <;> (try (split at hk <;> cases hk))) ?_
     intro Wx hWx
     have HTx := zH (HT.out.trans hWx)
     clear hWx HT
     have HT := HTx
     clear HTx
     have x0 := (HB3.out.step HT.out).cell 0
     have x1 := (HB3.out.step HT.out).cell 1
     have b1 := HT.out.kc HBC.out
     simp only [zD, zE] at x0 x1
     repeat ((first | (refine run_off rfl rfl (by rfl) ?_) | (refine run_chain_off rfl rfl (by rfl) (K0_mono _) ?_) | ((refine run_want rfl rfl (by rfl) ⟨?_, fun W hW => ?_, ?_⟩; rotate_left; (· (have d0 := hW.kc x0; have d1 := hW.kc x1; have d2 := hW.kc b1; go_simp; (try with_reducible rfl)))))); (try simp only [Act.put, zA, zB, zC]))
     clear x0 x1 b1
     refine run_chain rfl rfl (by rfl) (fun Wi hWi K' hK => ?_)
     have HTi := zH (HT.out.trans hWi)
     clear hWi HT
     go_simp
     refine (bigtopref01.In_any _ _ _ _).mono ?_
     rintro e wn ⟨rfl, rfl⟩
     rw [w1]
     have HT := HTi
     clear HTi
     refine hK _ _ (StepX.refl _ _) ?_
     (try simp only [Act.put, zA, zB, zC])
     have x0 := (HB3.out.step HT.out).cell 0
     have x1 := (HB3.out.step HT.out).cell 1
     have b1 := HT.out.kc HBC.out
     simp only [zD, zE] at x0 x1
     repeat ((first | (refine run_off rfl rfl (by rfl) ?_) | (refine run_chain_off rfl rfl (by rfl) (K0_mono _) ?_) | ((refine run_want rfl rfl (by rfl) ⟨?_, fun W hW => ?_, ?_⟩; rotate_left; (· (have d0 := hW.kc x0; have d1 := hW.kc x1; have d2 := hW.kc b1; go_simp; (try with_reducible rfl)))))); (try simp only [Act.put, zA, zB, zC]))
     clear x0 x1 b1
     refine run_chain rfl rfl (by rfl) (fun Wi hWi K' hK => ?_)
     have HTi := zH (HT.out.trans hWi)
     clear hWi HT
     go_simp
     refine (bigtopref01.In_any _ _ _ _).mono ?_
     rintro e wn ⟨rfl, rfl⟩
     rw [w2]
     have HT := HTi
     clear HTi
     refine hK _ _ (StepX.refl _ _) ?_
     (try simp only [Act.put, zA, zB, zC])
     have g1 := HT.out.kc HG.out.1
     have g2 := HT.out.kc HG.out.2
     have x0 := (HB3.out.step HT.out).cell 0
     have x1 := (HB3.out.step HT.out).cell 1
     have b1 := HT.out.kc HBC.out
     simp only [zD, zE] at x0 x1
     repeat ((first | (refine run_off rfl rfl (by rfl) ?_) | (refine run_chain_off rfl rfl (by rfl) (K0_mono _) ?_) | ((refine run_want rfl rfl (by rfl) ⟨?_, fun W hW => ?_, ?_⟩; rotate_left; (· (have d0 := hW.kc x0; have d1 := hW.kc x1; have d2 := hW.kc b1; have d3 := hW.kc g1; have d4 := hW.kc g2; go_simp; (try with_reducible rfl)))))); (try simp only [Act.put, zA, zB, zC]))
     clear x0 x1 b1
     clear g1 g2 w1 w2
     refine run_end (L := []) rfl (fun W6 hW6 => ?_)
     have HT6 := zH (HT.out.trans hW6)
     clear hW6 HT
     have HT := HT6
     clear HT6
     go_wp2
     go_roundw
     case rel => exact ⟨j + 1 + 1, by omega, by go_num, fun i hi hl => if e : i + 1 = j + 1 + 1 then by (obtain rfl : i = j + 1 + 1 - 1 := by omega); exact HLV.out else HA.out i (by omega) hl, HTR.out.trans (HS3.out.trans HT.out)⟩
     case measure => simp [intOf]; omega
   have HLW := zH (show (List.range s.levels.length).all (levelB s.levels) = true by
    rw [List.all_eq_true]
    intro i hi
    rw [List.mem_range] at hi
    exact HA.out i (by omega) hi)
   have b2 := (HB.out.step HTR.out).cell 2
   simp only [zD, zE] at b2
   go_upto_region 13 with (fail)
   clear hlt hk b1 b2 HA
   go_loopw [6] (fun i wr => ∃ k : Nat, k ≤ s.stages.length ∧ i = .int .i64 k ∧ (∀ j (hj : j < k) (hl : j < s.stages.length), stRefB s.stages j = true) ∧ Step W0 wr) (fun i _ => s.stages.length - (intOf i).toNat)
   case atStart => exact ⟨0, Nat.zero_le _, rfl, fun j hj => absurd hj (by omega), HTR.out⟩
   case round =>
    obtain ⟨k, hk, rfl, hall, hT⟩ := hrel
    have HA := zH hall
    clear HTR
    have HTR := zH hT
    clear hall hT
    have b2 := (HB.out.step HTR.out).cell 2
    simp only [zD, zE] at b2
    by_cases hlt : k < s.stages.length
    ·obtain ⟨q1, d1, bb, oo, he, _, _, hp, hc, hbl⟩ := (SL.go HV2.out HTR.out).stgs
     injection he with he1 _ he3
     subst he1 he3
     obtain rfl := hp (by omega)
     obtain ⟨e1, e2⟩ := hc k hlt
     have hix : (0 : Int) ≤ (k : Int) ∧ (k : Int) < (s.stages.length : Int) := by omega
     have hwn : IntKind.i64.wrap ((s.stages.length : Int) - 1) = (s.stages.length : Int) - 1 := by rw [IntKind.wrap_i64]; omega
     have HPRE := zH (fun (j : Nat) (hj : j + 1 = k) => hc j (by omega))
     have HNO := zH (fun (h : stRefB s.stages k = false) => show siteB s = false by
      rw [HSR.out]
      have : (List.range s.stages.length).all (stRefB s.stages) = false := by rw [List.all_eq_false]; exact ⟨k, List.mem_range.2 hlt, by rw [h]; decide⟩
      rw [this, Bool.and_false]; rfl)
     have HLB := zH (show stRefB s.stages k = (withinB s.stages[k].cover 0 100 && (decide (k + 1 = s.stages.length) == decide (s.stages[k].cover = 0)) && (match k with | 0 => true | j + 1 => match s.stages[j]? with | some y => decide (s.stages[k].cover < y.cover) | none => true) && (!decide (k + 1 = s.stages.length) || decide (s.stages[k].minutes = 0)) && (decide (k + 1 = s.stages.length) || withinB s.stages[k].minutes 1 240)) by unfold stRefB; rw [List.getElem?_eq_getElem hlt])
     obtain ⟨x, hx⟩ : ∃ x, x = s.stages[k] := ⟨_, rfl⟩
     rw [← hx] at e1 e2 HLB
     obtain ⟨xc, xm⟩ := x
     dsimp only at e1 e2 HLB
     obtain ⟨W3, hW3⟩ : ∃ W, W = wr.alloc (.cells #[.int .i64 xc, .int .i64 xm] 104) := ⟨_, rfl⟩
     have HB3 := zH (show Bx W3 wr.heap.size [.int .i64 xc, .int .i64 xm] 104 by subst hW3; exact Bx.new wr [_, _] _)
     have HS3 := zH (show Step wr W3 by subst hW3; exact Step.alloc _ _)
     have HW3 := zH hW3
     have HT := zH (Step.refl W3)
     have HBC := zH ((HB.out.step (HTR.out.trans HS3.out)).cell 2)
     simp only [zD, zE] at HBC
     clear hp hc hbl hx hW3
     go_upto_region 16 with (fail)
     rw [← HW3.out]
     clear e1 e2 b2
     obtain ⟨c8, hl⟩ : ∃ c : Bool, ((k : Int) == (s.stages.length : Int) - 1) = c := ⟨_, rfl⟩
     have b2 := HBC.out
     go_upto_region 17 with (fail)
     have HL8 := zH hl
     clear b2 hl
     cases w1 : withinB xc 0 100 with
     | false =>
      have HR := zH (HNO.out (by rw [HLB.out, w1]; rfl))
      refine wp_region_seq (kdOf [2, 41] []) (0 :: 1 :: 3 :: 7 :: 15 :: 31 :: 31 :: 95 :: 223 :: 511 :: 1023 :: 2047 :: 4095 :: 8191 :: 16383 :: 32767 :: 65535 :: 32767 :: 163839 :: 32767 :: 557055 :: 1998847 :: 4095999 :: 8290303 :: 16777215 :: 33554431 :: 67108863 :: 134217727 :: 268435455 :: 536870911 :: 1073741823 :: 2147483647 :: 4294967295 :: 8589934591 :: 17179869183 :: 34359738367 :: 68719476735 :: 137438953471 :: 274877906943 :: 549755813887 :: 1099511627775 :: 2199023255551 :: 4398046511103 :: 8796093022207 :: 17592186044415 :: []) (0 :: 1 :: 2 :: 3 :: 4 :: 5 :: 6 :: 7 :: 8 :: 9 :: 10 :: 11 :: 12 :: 13 :: 14 :: 15 :: 16 :: 17 :: 18 :: 19 :: 20 :: 21 :: 22 :: 23 :: 24 :: 25 :: 26 :: 27 :: 28 :: 29 :: 30 :: 31 :: 32 :: 33 :: 34 :: 35 :: 36 :: 37 :: 38 :: 39 :: 40 :: 41 :: 42 :: 43 :: 44 :: []) [] (by kernel_rfl) (by kernel_rfl) (fun i T z hi hk => by simp [kdOf] at hk <;> (try (split at hk <;> cases hk))) ?_
      intro Wx hWx
      have HTx := zH (HT.out.trans hWx)
      clear hWx HT
      have HT := HTx
      clear HTx
      have x0 := (HB3.out.step HT.out).cell 0
      have x1 := (HB3.out.step HT.out).cell 1
      have b1 := HT.out.kc HBC.out
      simp only [zD, zE] at x0 x1
      repeat ((first | (refine run_off rfl rfl (by rfl) ?_) | (refine run_chain_off rfl rfl (by rfl) (K0_mono _) ?_) | ((refine run_want rfl rfl (by rfl) ⟨?_, fun W hW => ?_, ?_⟩; rotate_left; (· (have d0 := hW.kc x0; have d1 := hW.kc x1; have d2 := hW.kc b1; go_simp; (try with_reducible rfl)))))); (try simp only [Act.put, zA, zB, zC]))
      clear x0 x1 b1
      refine run_chain rfl rfl (by rfl) (fun Wi hWi K' hK => ?_)
      have HTi := zH (HT.out.trans hWi)
      clear hWi HT
      go_simp
      refine (bigtopref01.In_any _ _ _ _).mono ?_
      rintro e wn ⟨rfl, rfl⟩
      rw [w1]
      have HT := HTi
      clear HTi
      refine hK _ _ (StepX.refl _ _) ?_
      (try simp only [Act.put, zA, zB, zC])
      clear w1
      have x0 := (HB3.out.step HT.out).cell 0
      have x1 := (HB3.out.step HT.out).cell 1
      have b1 := HT.out.kc HBC.out
      simp only [zD, zE] at x0 x1
      repeat ((first | (refine run_off rfl rfl (by rfl) ?_) | (refine run_chain_off rfl rfl (by rfl) (K0_mono _) ?_) | ((refine run_want rfl rfl (by rfl) ⟨?_, fun W hW => ?_, ?_⟩; rotate_left; (· (have d0 := hW.kc x0; have d1 := hW.kc x1; have d2 := hW.kc b1; go_simp; (try with_reducible rfl)))))); (try simp only [Act.put, zA, zB, zC]))
      clear x0 x1 b1
      refine run_end (L := []) rfl (fun W6 hW6 => ?_)
      have HT6 := zH (HT.out.trans hW6)
      clear hW6 HT
      have HT := HT6
      clear HT6
      go_wp2
      go_ret
      exact ⟨by rw [HR.out]; rfl, HS.out.trans (HTR.out.trans (HS3.out.trans HT.out))⟩
     | true =>
     cases k with
     | zero =>
      have d0 : decide (0 < ((0 : Nat) : Int)) = false := by decide
      have HF := zH (show stRefB s.stages 0 = ((decide (0 + 1 = s.stages.length) == decide (xc = 0)) && true && (!decide (0 + 1 = s.stages.length) || decide (xm = 0)) && (decide (0 + 1 = s.stages.length) || withinB xm 1 240)) by rw [HLB.out, w1]; rfl)
      by_cases L : 0 + 1 = s.stages.length
      ·have e8 : c8 = true := by rw [← HL8.out]; simp; omega
       subst e8
       by_cases z : xc = 0
       rotate_left
       ·have hz : (xc == 0) = false := by simpa using z
        have HR := zH (HNO.out (by rw [HF.out, decide_eq_true L, decide_eq_false z]; rfl))
        clear z L
        refine wp_region_seq (kdOf [2, 41] []) (0 :: 1 :: 3 :: 7 :: 15 :: 31 :: 31 :: 95 :: 223 :: 511 :: 1023 :: 2047 :: 4095 :: 8191 :: 16383 :: 32767 :: 65535 :: 32767 :: 163839 :: 32767 :: 557055 :: 1998847 :: 4095999 :: 8290303 :: 16777215 :: 33554431 :: 67108863 :: 134217727 :: 268435455 :: 536870911 :: 1073741823 :: 2147483647 :: 4294967295 :: 8589934591 :: 17179869183 :: 34359738367 :: 68719476735 :: 137438953471 :: 274877906943 :: 549755813887 :: 1099511627775 :: 2199023255551 :: 4398046511103 :: 8796093022207 :: 17592186044415 :: []) (0 :: 1 :: 2 :: 3 :: 4 :: 5 :: 6 :: 7 :: 8 :: 9 :: 10 :: 11 :: 12 :: 13 :: 14 :: 15 :: 16 :: 17 :: 18 :: 19 :: 20 :: 21 :: 22 :: 23 :: 24 :: 25 :: 26 :: 27 :: 28 :: 29 :: 30 :: 31 :: 32 :: 33 :: 34 :: 35 :: 36 :: 37 :: 38 :: 39 :: 40 :: 41 :: 42 :: 43 :: 44 :: []) [] (by kernel_rfl) (by kernel_rfl) (fun i T z hi hk => by simp [kdOf] at hk <;> (try (split at hk <;> cases hk))) ?_
        intro Wx hWx
        have HTx := zH (HT.out.trans hWx)
        clear hWx HT
        have HT := HTx
        clear HTx
        have x0 := (HB3.out.step HT.out).cell 0
        have x1 := (HB3.out.step HT.out).cell 1
        have b1 := HT.out.kc HBC.out
        simp only [zD, zE] at x0 x1
        repeat ((first | (refine run_off rfl rfl (by rfl) ?_) | (refine run_chain_off rfl rfl (by rfl) (K0_mono _) ?_) | ((refine run_want rfl rfl (by rfl) ⟨?_, fun W hW => ?_, ?_⟩; rotate_left; (· (have d0 := hW.kc x0; have d1 := hW.kc x1; have d2 := hW.kc b1; go_simp; (try with_reducible rfl)))))); (try simp only [Act.put, zA, zB, zC]))
        clear x0 x1 b1
        refine run_chain rfl rfl (by rfl) (fun Wi hWi K' hK => ?_)
        have HTi := zH (HT.out.trans hWi)
        clear hWi HT
        go_simp
        refine (bigtopref01.In_any _ _ _ _).mono ?_
        rintro e wn ⟨rfl, rfl⟩
        rw [w1]
        have HT := HTi
        clear HTi
        refine hK _ _ (StepX.refl _ _) ?_
        (try simp only [Act.put, zA, zB, zC])
        have x0 := (HB3.out.step HT.out).cell 0
        have x1 := (HB3.out.step HT.out).cell 1
        have b1 := HT.out.kc HBC.out
        simp only [zD, zE] at x0 x1
        repeat ((first | (refine run_off rfl rfl (by rfl) ?_) | (refine run_chain_off rfl rfl (by rfl) (K0_mono _) ?_) | ((refine run_want rfl rfl (by rfl) ⟨?_, fun W hW => ?_, ?_⟩; rotate_left; (· (have d0 := hW.kc x0; have d1 := hW.kc x1; have d2 := hW.kc b1; go_simp; (try with_reducible rfl)))))); (try simp only [Act.put, zA, zB, zC]))
        clear x0 x1 b1
        refine run_end (L := []) rfl (fun W6 hW6 => ?_)
        have HT6 := zH (HT.out.trans hW6)
        clear hW6 HT
        have HT := HT6
        clear HT6
        go_wp2
        go_ret
        exact ⟨by rw [HR.out]; rfl, HS.out.trans (HTR.out.trans (HS3.out.trans HT.out))⟩
       have hz : (xc == 0) = true := by simpa using z
       by_cases m : xm = 0
       rotate_left
       ·have hmm : (xm != 0) = true := by simpa using m
        have HR := zH (HNO.out (by rw [HF.out, decide_eq_true L, decide_eq_true z, decide_eq_false m]; rfl))
        clear z L m
        refine wp_region_seq (kdOf [2, 41] []) (0 :: 1 :: 3 :: 7 :: 15 :: 31 :: 31 :: 95 :: 223 :: 511 :: 1023 :: 2047 :: 4095 :: 8191 :: 16383 :: 32767 :: 65535 :: 32767 :: 163839 :: 32767 :: 557055 :: 1998847 :: 4095999 :: 8290303 :: 16777215 :: 33554431 :: 67108863 :: 134217727 :: 268435455 :: 536870911 :: 1073741823 :: 2147483647 :: 4294967295 :: 8589934591 :: 17179869183 :: 34359738367 :: 68719476735 :: 137438953471 :: 274877906943 :: 549755813887 :: 1099511627775 :: 2199023255551 :: 4398046511103 :: 8796093022207 :: 17592186044415 :: []) (0 :: 1 :: 2 :: 3 :: 4 :: 5 :: 6 :: 7 :: 8 :: 9 :: 10 :: 11 :: 12 :: 13 :: 14 :: 15 :: 16 :: 17 :: 18 :: 19 :: 20 :: 21 :: 22 :: 23 :: 24 :: 25 :: 26 :: 27 :: 28 :: 29 :: 30 :: 31 :: 32 :: 33 :: 34 :: 35 :: 36 :: 37 :: 38 :: 39 :: 40 :: 41 :: 42 :: 43 :: 44 :: []) [] (by kernel_rfl) (by kernel_rfl) (fun i T z hi hk => by simp [kdOf] at hk <;> (try (split at hk <;> cases hk))) ?_
        intro Wx hWx
        have HTx := zH (HT.out.trans hWx)
        clear hWx HT
        have HT := HTx
        clear HTx
        have x0 := (HB3.out.step HT.out).cell 0
        have x1 := (HB3.out.step HT.out).cell 1
        have b1 := HT.out.kc HBC.out
        simp only [zD, zE] at x0 x1
        repeat ((first | (refine run_off rfl rfl (by rfl) ?_) | (refine run_chain_off rfl rfl (by rfl) (K0_mono _) ?_) | ((refine run_want rfl rfl (by rfl) ⟨?_, fun W hW => ?_, ?_⟩; rotate_left; (· (have d0 := hW.kc x0; have d1 := hW.kc x1; have d2 := hW.kc b1; go_simp; (try with_reducible rfl)))))); (try simp only [Act.put, zA, zB, zC]))
        clear x0 x1 b1
        refine run_chain rfl rfl (by rfl) (fun Wi hWi K' hK => ?_)
        have HTi := zH (HT.out.trans hWi)
        clear hWi HT
        go_simp
        refine (bigtopref01.In_any _ _ _ _).mono ?_
        rintro e wn ⟨rfl, rfl⟩
        rw [w1]
        have HT := HTi
        clear HTi
        refine hK _ _ (StepX.refl _ _) ?_
        (try simp only [Act.put, zA, zB, zC])
        have x0 := (HB3.out.step HT.out).cell 0
        have x1 := (HB3.out.step HT.out).cell 1
        have b1 := HT.out.kc HBC.out
        simp only [zD, zE] at x0 x1
        repeat ((first | (refine run_off rfl rfl (by rfl) ?_) | (refine run_chain_off rfl rfl (by rfl) (K0_mono _) ?_) | ((refine run_want rfl rfl (by rfl) ⟨?_, fun W hW => ?_, ?_⟩; rotate_left; (· (have d0 := hW.kc x0; have d1 := hW.kc x1; have d2 := hW.kc b1; go_simp; (try with_reducible rfl)))))); (try simp only [Act.put, zA, zB, zC]))
        clear x0 x1 b1
        refine run_end (L := []) rfl (fun W6 hW6 => ?_)
        have HT6 := zH (HT.out.trans hW6)
        clear hW6 HT
        have HT := HT6
        clear HT6
        go_wp2
        go_ret
        exact ⟨by rw [HR.out]; rfl, HS.out.trans (HTR.out.trans (HS3.out.trans HT.out))⟩
       have hmm : (xm != 0) = false := by simpa using m
       have HLV := zH (show stRefB s.stages (1 - 1) = true by (show stRefB s.stages (0) = true); rw [HF.out, decide_eq_true L, decide_eq_true z, decide_eq_true m]; rfl)
       clear z L m
       refine wp_region_seq (kdOf [2, 41] []) (0 :: 1 :: 3 :: 7 :: 15 :: 31 :: 31 :: 95 :: 223 :: 511 :: 1023 :: 2047 :: 4095 :: 8191 :: 16383 :: 32767 :: 65535 :: 32767 :: 163839 :: 32767 :: 557055 :: 1998847 :: 4095999 :: 8290303 :: 16777215 :: 33554431 :: 67108863 :: 134217727 :: 268435455 :: 536870911 :: 1073741823 :: 2147483647 :: 4294967295 :: 8589934591 :: 17179869183 :: 34359738367 :: 68719476735 :: 137438953471 :: 274877906943 :: 549755813887 :: 1099511627775 :: 2199023255551 :: 4398046511103 :: 8796093022207 :: 17592186044415 :: []) (0 :: 1 :: 2 :: 3 :: 4 :: 5 :: 6 :: 7 :: 8 :: 9 :: 10 :: 11 :: 12 :: 13 :: 14 :: 15 :: 16 :: 17 :: 18 :: 19 :: 20 :: 21 :: 22 :: 23 :: 24 :: 25 :: 26 :: 27 :: 28 :: 29 :: 30 :: 31 :: 32 :: 33 :: 34 :: 35 :: 36 :: 37 :: 38 :: 39 :: 40 :: 41 :: 42 :: 43 :: 44 :: []) [] (by kernel_rfl) (by kernel_rfl) (fun i T z hi hk => by simp [kdOf] at hk <;> (try (split at hk <;> cases hk))) ?_
       intro Wx hWx
       have HTx := zH (HT.out.trans hWx)
       clear hWx HT
       have HT := HTx
       clear HTx
       have x0 := (HB3.out.step HT.out).cell 0
       have x1 := (HB3.out.step HT.out).cell 1
       have b1 := HT.out.kc HBC.out
       simp only [zD, zE] at x0 x1
       repeat ((first | (refine run_off rfl rfl (by rfl) ?_) | (refine run_chain_off rfl rfl (by rfl) (K0_mono _) ?_) | ((refine run_want rfl rfl (by rfl) ⟨?_, fun W hW => ?_, ?_⟩; rotate_left; (· (have d0 := hW.kc x0; have d1 := hW.kc x1; have d2 := hW.kc b1; go_simp; (try with_reducible rfl)))))); (try simp only [Act.put, zA, zB, zC]))
       clear x0 x1 b1
       refine run_chain rfl rfl (by rfl) (fun Wi hWi K' hK => ?_)
       have HTi := zH (HT.out.trans hWi)
       clear hWi HT
       go_simp
       refine (bigtopref01.In_any _ _ _ _).mono ?_
       rintro e wn ⟨rfl, rfl⟩
       rw [w1]
       have HT := HTi
       clear HTi
       refine hK _ _ (StepX.refl _ _) ?_
       (try simp only [Act.put, zA, zB, zC])
       have x0 := (HB3.out.step HT.out).cell 0
       have x1 := (HB3.out.step HT.out).cell 1
       have b1 := HT.out.kc HBC.out
       simp only [zD, zE] at x0 x1
       repeat ((first | (refine run_off rfl rfl (by rfl) ?_) | (refine run_chain_off rfl rfl (by rfl) (K0_mono _) ?_) | ((refine run_want rfl rfl (by rfl) ⟨?_, fun W hW => ?_, ?_⟩; rotate_left; (· (have d0 := hW.kc x0; have d1 := hW.kc x1; have d2 := hW.kc b1; go_simp; (try with_reducible rfl)))))); (try simp only [Act.put, zA, zB, zC]))
       clear x0 x1 b1
       refine run_end (L := []) rfl (fun W6 hW6 => ?_)
       have HT6 := zH (HT.out.trans hW6)
       clear hW6 HT
       have HT := HT6
       clear HT6
       go_wp2
       go_roundw
       case rel => exact ⟨1, by omega, by go_num, fun i hi hl => if e : i + 1 = 1 then by (obtain rfl : i = 1 - 1 := by omega); exact HLV.out else HA.out i (by omega) hl, HTR.out.trans (HS3.out.trans HT.out)⟩
       case measure => simp [intOf]; omega
      have e8 : c8 = false := by rw [← HL8.out]; simp; omega
      subst e8
      by_cases z : xc = 0
      ·have hz : (xc == 0) = true := by simpa using z
       have HR := zH (HNO.out (by rw [HF.out, decide_eq_false L, decide_eq_true z]; rfl))
       clear z L
       refine wp_region_seq (kdOf [2, 41] []) (0 :: 1 :: 3 :: 7 :: 15 :: 31 :: 31 :: 95 :: 223 :: 511 :: 1023 :: 2047 :: 4095 :: 8191 :: 16383 :: 32767 :: 65535 :: 32767 :: 163839 :: 32767 :: 557055 :: 1998847 :: 4095999 :: 8290303 :: 16777215 :: 33554431 :: 67108863 :: 134217727 :: 268435455 :: 536870911 :: 1073741823 :: 2147483647 :: 4294967295 :: 8589934591 :: 17179869183 :: 34359738367 :: 68719476735 :: 137438953471 :: 274877906943 :: 549755813887 :: 1099511627775 :: 2199023255551 :: 4398046511103 :: 8796093022207 :: 17592186044415 :: []) (0 :: 1 :: 2 :: 3 :: 4 :: 5 :: 6 :: 7 :: 8 :: 9 :: 10 :: 11 :: 12 :: 13 :: 14 :: 15 :: 16 :: 17 :: 18 :: 19 :: 20 :: 21 :: 22 :: 23 :: 24 :: 25 :: 26 :: 27 :: 28 :: 29 :: 30 :: 31 :: 32 :: 33 :: 34 :: 35 :: 36 :: 37 :: 38 :: 39 :: 40 :: 41 :: 42 :: 43 :: 44 :: []) [] (by kernel_rfl) (by kernel_rfl) (fun i T z hi hk => by simp [kdOf] at hk <;> (try (split at hk <;> cases hk))) ?_
       intro Wx hWx
       have HTx := zH (HT.out.trans hWx)
       clear hWx HT
       have HT := HTx
       clear HTx
       have x0 := (HB3.out.step HT.out).cell 0
       have x1 := (HB3.out.step HT.out).cell 1
       have b1 := HT.out.kc HBC.out
       simp only [zD, zE] at x0 x1
       repeat ((first | (refine run_off rfl rfl (by rfl) ?_) | (refine run_chain_off rfl rfl (by rfl) (K0_mono _) ?_) | ((refine run_want rfl rfl (by rfl) ⟨?_, fun W hW => ?_, ?_⟩; rotate_left; (· (have d0 := hW.kc x0; have d1 := hW.kc x1; have d2 := hW.kc b1; go_simp; (try with_reducible rfl)))))); (try simp only [Act.put, zA, zB, zC]))
       clear x0 x1 b1
       refine run_chain rfl rfl (by rfl) (fun Wi hWi K' hK => ?_)
       have HTi := zH (HT.out.trans hWi)
       clear hWi HT
       go_simp
       refine (bigtopref01.In_any _ _ _ _).mono ?_
       rintro e wn ⟨rfl, rfl⟩
       rw [w1]
       have HT := HTi
       clear HTi
       refine hK _ _ (StepX.refl _ _) ?_
       (try simp only [Act.put, zA, zB, zC])
       have x0 := (HB3.out.step HT.out).cell 0
       have x1 := (HB3.out.step HT.out).cell 1
       have b1 := HT.out.kc HBC.out
       simp only [zD, zE] at x0 x1
       repeat ((first | (refine run_off rfl rfl (by rfl) ?_) | (refine run_chain_off rfl rfl (by rfl) (K0_mono _) ?_) | ((refine run_want rfl rfl (by rfl) ⟨?_, fun W hW => ?_, ?_⟩; rotate_left; (· (have d0 := hW.kc x0; have d1 := hW.kc x1; have d2 := hW.kc b1; go_simp; (try with_reducible rfl)))))); (try simp only [Act.put, zA, zB, zC]))
       clear x0 x1 b1
       refine run_end (L := []) rfl (fun W6 hW6 => ?_)
       have HT6 := zH (HT.out.trans hW6)
       clear hW6 HT
       have HT := HT6
       clear HT6
       go_wp2
       go_ret
       exact ⟨by rw [HR.out]; rfl, HS.out.trans (HTR.out.trans (HS3.out.trans HT.out))⟩
      have hz : (xc == 0) = false := by simpa using z
      cases w3 : withinB xm 1 240 with
      | false =>
       have HR := zH (HNO.out (by rw [HF.out, decide_eq_false L, decide_eq_false z, w3]; rfl))
       clear z L
       refine wp_region_seq (kdOf [2, 41] []) (0 :: 1 :: 3 :: 7 :: 15 :: 31 :: 31 :: 95 :: 223 :: 511 :: 1023 :: 2047 :: 4095 :: 8191 :: 16383 :: 32767 :: 65535 :: 32767 :: 163839 :: 32767 :: 557055 :: 1998847 :: 4095999 :: 8290303 :: 16777215 :: 33554431 :: 67108863 :: 134217727 :: 268435455 :: 536870911 :: 1073741823 :: 2147483647 :: 4294967295 :: 8589934591 :: 17179869183 :: 34359738367 :: 68719476735 :: 137438953471 :: 274877906943 :: 549755813887 :: 1099511627775 :: 2199023255551 :: 4398046511103 :: 8796093022207 :: 17592186044415 :: []) (0 :: 1 :: 2 :: 3 :: 4 :: 5 :: 6 :: 7 :: 8 :: 9 :: 10 :: 11 :: 12 :: 13 :: 14 :: 15 :: 16 :: 17 :: 18 :: 19 :: 20 :: 21 :: 22 :: 23 :: 24 :: 25 :: 26 :: 27 :: 28 :: 29 :: 30 :: 31 :: 32 :: 33 :: 34 :: 35 :: 36 :: 37 :: 38 :: 39 :: 40 :: 41 :: 42 :: 43 :: 44 :: []) [] (by kernel_rfl) (by kernel_rfl) (fun i T z hi hk => by simp [kdOf] at hk <;> (try (split at hk <;> cases hk))) ?_
       intro Wx hWx
       have HTx := zH (HT.out.trans hWx)
       clear hWx HT
       have HT := HTx
       clear HTx
       have x0 := (HB3.out.step HT.out).cell 0
       have x1 := (HB3.out.step HT.out).cell 1
       have b1 := HT.out.kc HBC.out
       simp only [zD, zE] at x0 x1
       repeat ((first | (refine run_off rfl rfl (by rfl) ?_) | (refine run_chain_off rfl rfl (by rfl) (K0_mono _) ?_) | ((refine run_want rfl rfl (by rfl) ⟨?_, fun W hW => ?_, ?_⟩; rotate_left; (· (have d0 := hW.kc x0; have d1 := hW.kc x1; have d2 := hW.kc b1; go_simp; (try with_reducible rfl)))))); (try simp only [Act.put, zA, zB, zC]))
       clear x0 x1 b1
       refine run_chain rfl rfl (by rfl) (fun Wi hWi K' hK => ?_)
       have HTi := zH (HT.out.trans hWi)
       clear hWi HT
       go_simp
       refine (bigtopref01.In_any _ _ _ _).mono ?_
       rintro e wn ⟨rfl, rfl⟩
       rw [w1]
       have HT := HTi
       clear HTi
       refine hK _ _ (StepX.refl _ _) ?_
       (try simp only [Act.put, zA, zB, zC])
       have x0 := (HB3.out.step HT.out).cell 0
       have x1 := (HB3.out.step HT.out).cell 1
       have b1 := HT.out.kc HBC.out
       simp only [zD, zE] at x0 x1
       repeat ((first | (refine run_off rfl rfl (by rfl) ?_) | (refine run_chain_off rfl rfl (by rfl) (K0_mono _) ?_) | ((refine run_want rfl rfl (by rfl) ⟨?_, fun W hW => ?_, ?_⟩; rotate_left; (· (have d0 := hW.kc x0; have d1 := hW.kc x1; have d2 := hW.kc b1; go_simp; (try with_reducible rfl)))))); (try simp only [Act.put, zA, zB, zC]))
       clear x0 x1 b1
       refine run_chain rfl rfl (by rfl) (fun Wi hWi K' hK => ?_)
       have HTi := zH (HT.out.trans hWi)
       clear hWi HT
       go_simp
       refine (bigtopref01.In_any _ _ _ _).mono ?_
       rintro e wn ⟨rfl, rfl⟩
       rw [w3]
       have HT := HTi
       clear HTi
       refine hK _ _ (StepX.refl _ _) ?_
       (try simp only [Act.put, zA, zB, zC])
       have x0 := (HB3.out.step HT.out).cell 0
       have x1 := (HB3.out.step HT.out).cell 1
       have b1 := HT.out.kc HBC.out
       simp only [zD, zE] at x0 x1
       repeat ((first | (refine run_off rfl rfl (by rfl) ?_) | (refine run_chain_off rfl rfl (by rfl) (K0_mono _) ?_) | ((refine run_want rfl rfl (by rfl) ⟨?_, fun W hW => ?_, ?_⟩; rotate_left; (· (have d0 := hW.kc x0; have d1 := hW.kc x1; have d2 := hW.kc b1; go_simp; (try with_reducible rfl)))))); (try simp only [Act.put, zA, zB, zC]))
       clear x0 x1 b1
       refine run_end (L := []) rfl (fun W6 hW6 => ?_)
       have HT6 := zH (HT.out.trans hW6)
       clear hW6 HT
       have HT := HT6
       clear HT6
       go_wp2
       go_ret
       exact ⟨by rw [HR.out]; rfl, HS.out.trans (HTR.out.trans (HS3.out.trans HT.out))⟩
      | true =>
       have HLV := zH (show stRefB s.stages (1 - 1) = true by (show stRefB s.stages (0) = true); rw [HF.out, decide_eq_false L, decide_eq_false z, w3]; rfl)
       clear z L
       refine wp_region_seq (kdOf [2, 41] []) (0 :: 1 :: 3 :: 7 :: 15 :: 31 :: 31 :: 95 :: 223 :: 511 :: 1023 :: 2047 :: 4095 :: 8191 :: 16383 :: 32767 :: 65535 :: 32767 :: 163839 :: 32767 :: 557055 :: 1998847 :: 4095999 :: 8290303 :: 16777215 :: 33554431 :: 67108863 :: 134217727 :: 268435455 :: 536870911 :: 1073741823 :: 2147483647 :: 4294967295 :: 8589934591 :: 17179869183 :: 34359738367 :: 68719476735 :: 137438953471 :: 274877906943 :: 549755813887 :: 1099511627775 :: 2199023255551 :: 4398046511103 :: 8796093022207 :: 17592186044415 :: []) (0 :: 1 :: 2 :: 3 :: 4 :: 5 :: 6 :: 7 :: 8 :: 9 :: 10 :: 11 :: 12 :: 13 :: 14 :: 15 :: 16 :: 17 :: 18 :: 19 :: 20 :: 21 :: 22 :: 23 :: 24 :: 25 :: 26 :: 27 :: 28 :: 29 :: 30 :: 31 :: 32 :: 33 :: 34 :: 35 :: 36 :: 37 :: 38 :: 39 :: 40 :: 41 :: 42 :: 43 :: 44 :: []) [] (by kernel_rfl) (by kernel_rfl) (fun i T z hi hk => by simp [kdOf] at hk <;> (try (split at hk <;> cases hk))) ?_
       intro Wx hWx
       have HTx := zH (HT.out.trans hWx)
       clear hWx HT
       have HT := HTx
       clear HTx
       have x0 := (HB3.out.step HT.out).cell 0
       have x1 := (HB3.out.step HT.out).cell 1
       have b1 := HT.out.kc HBC.out
       simp only [zD, zE] at x0 x1
       repeat ((first | (refine run_off rfl rfl (by rfl) ?_) | (refine run_chain_off rfl rfl (by rfl) (K0_mono _) ?_) | ((refine run_want rfl rfl (by rfl) ⟨?_, fun W hW => ?_, ?_⟩; rotate_left; (· (have d0 := hW.kc x0; have d1 := hW.kc x1; have d2 := hW.kc b1; go_simp; (try with_reducible rfl)))))); (try simp only [Act.put, zA, zB, zC]))
       clear x0 x1 b1
       refine run_chain rfl rfl (by rfl) (fun Wi hWi K' hK => ?_)
       have HTi := zH (HT.out.trans hWi)
       clear hWi HT
       go_simp
       refine (bigtopref01.In_any _ _ _ _).mono ?_
       rintro e wn ⟨rfl, rfl⟩
       rw [w1]
       have HT := HTi
       clear HTi
       refine hK _ _ (StepX.refl _ _) ?_
       (try simp only [Act.put, zA, zB, zC])
       have x0 := (HB3.out.step HT.out).cell 0
       have x1 := (HB3.out.step HT.out).cell 1
       have b1 := HT.out.kc HBC.out
       simp only [zD, zE] at x0 x1
       repeat ((first | (refine run_off rfl rfl (by rfl) ?_) | (refine run_chain_off rfl rfl (by rfl) (K0_mono _) ?_) | ((refine run_want rfl rfl (by rfl) ⟨?_, fun W hW => ?_, ?_⟩; rotate_left; (· (have d0 := hW.kc x0; have d1 := hW.kc x1; have d2 := hW.kc b1; go_simp; (try with_reducible rfl)))))); (try simp only [Act.put, zA, zB, zC]))
       clear x0 x1 b1
       refine run_chain rfl rfl (by rfl) (fun Wi hWi K' hK => ?_)
       have HTi := zH (HT.out.trans hWi)
       clear hWi HT
       go_simp
       refine (bigtopref01.In_any _ _ _ _).mono ?_
       rintro e wn ⟨rfl, rfl⟩
       rw [w3]
       have HT := HTi
       clear HTi
       refine hK _ _ (StepX.refl _ _) ?_
       (try simp only [Act.put, zA, zB, zC])
       have x0 := (HB3.out.step HT.out).cell 0
       have x1 := (HB3.out.step HT.out).cell 1
       have b1 := HT.out.kc HBC.out
       simp only [zD, zE] at x0 x1
       repeat ((first | (refine run_off rfl rfl (by rfl) ?_) | (refine run_chain_off rfl rfl (by rfl) (K0_mono _) ?_) | ((refine run_want rfl rfl (by rfl) ⟨?_, fun W hW => ?_, ?_⟩; rotate_left; (· (have d0 := hW.kc x0; have d1 := hW.kc x1; have d2 := hW.kc b1; go_simp; (try with_reducible rfl)))))); (try simp only [Act.put, zA, zB, zC]))
       clear x0 x1 b1
       refine run_end (L := []) rfl (fun W6 hW6 => ?_)
       have HT6 := zH (HT.out.trans hW6)
       clear hW6 HT
       have HT := HT6
       clear HT6
       go_wp2
       go_roundw
       case rel => exact ⟨1, by omega, by go_num, fun i hi hl => if e : i + 1 = 1 then by (obtain rfl : i = 1 - 1 := by omega); exact HLV.out else HA.out i (by omega) hl, HTR.out.trans (HS3.out.trans HT.out)⟩
       case measure => simp [intOf]; omega
     | succ j =>
      have hpre := HPRE.out j rfl
      obtain ⟨g1, g2⟩ := hpre
      have hjx : (0 : Int) ≤ (j : Int) ∧ (j : Int) < (s.stages.length : Int) := by omega
      have hwj : IntKind.i64.wrap (j : Int) = (j : Int) := by rw [IntKind.wrap_i64]; omega
      have hd0 : decide ((0 : Int) < ((j + 1 : Nat) : Int)) = true := decide_eq_true (by omega)
      have HLC := zH (show stRefB s.stages (j + 1) = (withinB xc 0 100 && (decide (j + 1 + 1 = s.stages.length) == decide (xc = 0)) && decide (xc < s.stages[j].cover) && (!decide (j + 1 + 1 = s.stages.length) || decide (xm = 0)) && (decide (j + 1 + 1 = s.stages.length) || withinB xm 1 240)) by
       rw [HLB.out]
       simp only [List.getElem?_eq_getElem (show j < s.stages.length by omega)])
      obtain ⟨y, hy⟩ : ∃ y, y = s.stages[j] := ⟨_, rfl⟩
      rw [← hy] at g1 g2 HLC
      obtain ⟨yu, yp⟩ := y
      dsimp only at g1 g2 HLC
      have HG := zH (And.intro (HS3.out.kc g1) (HS3.out.kc g2))
      clear g1 g2 hy
      have HF := zH (show stRefB s.stages (j + 1) = ((decide (j + 1 + 1 = s.stages.length) == decide (xc = 0)) && decide (xc < yu) && (!decide (j + 1 + 1 = s.stages.length) || decide (xm = 0)) && (decide (j + 1 + 1 = s.stages.length) || withinB xm 1 240)) by rw [HLC.out, w1]; rfl)
      by_cases L : j + 1 + 1 = s.stages.length
      ·have e8 : c8 = true := by rw [← HL8.out]; simp; omega
       subst e8
       by_cases z : xc = 0
       rotate_left
       ·have hz : (xc == 0) = false := by simpa using z
        have HR := zH (HNO.out (by rw [HF.out, decide_eq_true L, decide_eq_false z]; rfl))
        clear z L
        refine wp_region_seq (kdOf [2, 41] []) (0 :: 1 :: 3 :: 7 :: 15 :: 31 :: 31 :: 95 :: 223 :: 511 :: 1023 :: 2047 :: 4095 :: 8191 :: 16383 :: 32767 :: 65535 :: 32767 :: 163839 :: 32767 :: 557055 :: 1998847 :: 4095999 :: 8290303 :: 16777215 :: 33554431 :: 67108863 :: 134217727 :: 268435455 :: 536870911 :: 1073741823 :: 2147483647 :: 4294967295 :: 8589934591 :: 17179869183 :: 34359738367 :: 68719476735 :: 137438953471 :: 274877906943 :: 549755813887 :: 1099511627775 :: 2199023255551 :: 4398046511103 :: 8796093022207 :: 17592186044415 :: []) (0 :: 1 :: 2 :: 3 :: 4 :: 5 :: 6 :: 7 :: 8 :: 9 :: 10 :: 11 :: 12 :: 13 :: 14 :: 15 :: 16 :: 17 :: 18 :: 19 :: 20 :: 21 :: 22 :: 23 :: 24 :: 25 :: 26 :: 27 :: 28 :: 29 :: 30 :: 31 :: 32 :: 33 :: 34 :: 35 :: 36 :: 37 :: 38 :: 39 :: 40 :: 41 :: 42 :: 43 :: 44 :: []) [] (by kernel_rfl) (by kernel_rfl) (fun i T z hi hk => by simp [kdOf] at hk <;> (try (split at hk <;> cases hk))) ?_
        intro Wx hWx
        have HTx := zH (HT.out.trans hWx)
        clear hWx HT
        have HT := HTx
        clear HTx
        have x0 := (HB3.out.step HT.out).cell 0
        have x1 := (HB3.out.step HT.out).cell 1
        have b1 := HT.out.kc HBC.out
        simp only [zD, zE] at x0 x1
        repeat ((first | (refine run_off rfl rfl (by rfl) ?_) | (refine run_chain_off rfl rfl (by rfl) (K0_mono _) ?_) | ((refine run_want rfl rfl (by rfl) ⟨?_, fun W hW => ?_, ?_⟩; rotate_left; (· (have d0 := hW.kc x0; have d1 := hW.kc x1; have d2 := hW.kc b1; go_simp; (try with_reducible rfl)))))); (try simp only [Act.put, zA, zB, zC]))
        clear x0 x1 b1
        refine run_chain rfl rfl (by rfl) (fun Wi hWi K' hK => ?_)
        have HTi := zH (HT.out.trans hWi)
        clear hWi HT
        go_simp
        refine (bigtopref01.In_any _ _ _ _).mono ?_
        rintro e wn ⟨rfl, rfl⟩
        rw [w1]
        have HT := HTi
        clear HTi
        refine hK _ _ (StepX.refl _ _) ?_
        (try simp only [Act.put, zA, zB, zC])
        have g1 := HT.out.kc HG.out.1
        have g2 := HT.out.kc HG.out.2
        have x0 := (HB3.out.step HT.out).cell 0
        have x1 := (HB3.out.step HT.out).cell 1
        have b1 := HT.out.kc HBC.out
        simp only [zD, zE] at x0 x1
        repeat ((first | (refine run_off rfl rfl (by rfl) ?_) | (refine run_chain_off rfl rfl (by rfl) (K0_mono _) ?_) | ((refine run_want rfl rfl (by rfl) ⟨?_, fun W hW => ?_, ?_⟩; rotate_left; (· (have d0 := hW.kc x0; have d1 := hW.kc x1; have d2 := hW.kc b1; have d3 := hW.kc g1; have d4 := hW.kc g2; go_simp; (try with_reducible rfl)))))); (try simp only [Act.put, zA, zB, zC]))
        clear x0 x1 b1
        clear g1 g2
        refine run_end (L := []) rfl (fun W6 hW6 => ?_)
        have HT6 := zH (HT.out.trans hW6)
        clear hW6 HT
        have HT := HT6
        clear HT6
        go_wp2
        go_ret
        exact ⟨by rw [HR.out]; rfl, HS.out.trans (HTR.out.trans (HS3.out.trans HT.out))⟩
       have hz : (xc == 0) = true := by simpa using z
       by_cases c : yu ≤ xc
       ·have hc : decide (yu ≤ xc) = true := decide_eq_true c
        have HR := zH (HNO.out (by rw [HF.out, decide_eq_true L, decide_eq_true z, decide_eq_false (show ¬ xc < yu by omega)]; rfl))
        clear z L c
        refine wp_region_seq (kdOf [2, 41] []) (0 :: 1 :: 3 :: 7 :: 15 :: 31 :: 31 :: 95 :: 223 :: 511 :: 1023 :: 2047 :: 4095 :: 8191 :: 16383 :: 32767 :: 65535 :: 32767 :: 163839 :: 32767 :: 557055 :: 1998847 :: 4095999 :: 8290303 :: 16777215 :: 33554431 :: 67108863 :: 134217727 :: 268435455 :: 536870911 :: 1073741823 :: 2147483647 :: 4294967295 :: 8589934591 :: 17179869183 :: 34359738367 :: 68719476735 :: 137438953471 :: 274877906943 :: 549755813887 :: 1099511627775 :: 2199023255551 :: 4398046511103 :: 8796093022207 :: 17592186044415 :: []) (0 :: 1 :: 2 :: 3 :: 4 :: 5 :: 6 :: 7 :: 8 :: 9 :: 10 :: 11 :: 12 :: 13 :: 14 :: 15 :: 16 :: 17 :: 18 :: 19 :: 20 :: 21 :: 22 :: 23 :: 24 :: 25 :: 26 :: 27 :: 28 :: 29 :: 30 :: 31 :: 32 :: 33 :: 34 :: 35 :: 36 :: 37 :: 38 :: 39 :: 40 :: 41 :: 42 :: 43 :: 44 :: []) [] (by kernel_rfl) (by kernel_rfl) (fun i T z hi hk => by simp [kdOf] at hk <;> (try (split at hk <;> cases hk))) ?_
        intro Wx hWx
        have HTx := zH (HT.out.trans hWx)
        clear hWx HT
        have HT := HTx
        clear HTx
        have x0 := (HB3.out.step HT.out).cell 0
        have x1 := (HB3.out.step HT.out).cell 1
        have b1 := HT.out.kc HBC.out
        simp only [zD, zE] at x0 x1
        repeat ((first | (refine run_off rfl rfl (by rfl) ?_) | (refine run_chain_off rfl rfl (by rfl) (K0_mono _) ?_) | ((refine run_want rfl rfl (by rfl) ⟨?_, fun W hW => ?_, ?_⟩; rotate_left; (· (have d0 := hW.kc x0; have d1 := hW.kc x1; have d2 := hW.kc b1; go_simp; (try with_reducible rfl)))))); (try simp only [Act.put, zA, zB, zC]))
        clear x0 x1 b1
        refine run_chain rfl rfl (by rfl) (fun Wi hWi K' hK => ?_)
        have HTi := zH (HT.out.trans hWi)
        clear hWi HT
        go_simp
        refine (bigtopref01.In_any _ _ _ _).mono ?_
        rintro e wn ⟨rfl, rfl⟩
        rw [w1]
        have HT := HTi
        clear HTi
        refine hK _ _ (StepX.refl _ _) ?_
        (try simp only [Act.put, zA, zB, zC])
        have g1 := HT.out.kc HG.out.1
        have g2 := HT.out.kc HG.out.2
        have x0 := (HB3.out.step HT.out).cell 0
        have x1 := (HB3.out.step HT.out).cell 1
        have b1 := HT.out.kc HBC.out
        simp only [zD, zE] at x0 x1
        repeat ((first | (refine run_off rfl rfl (by rfl) ?_) | (refine run_chain_off rfl rfl (by rfl) (K0_mono _) ?_) | ((refine run_want rfl rfl (by rfl) ⟨?_, fun W hW => ?_, ?_⟩; rotate_left; (· (have d0 := hW.kc x0; have d1 := hW.kc x1; have d2 := hW.kc b1; have d3 := hW.kc g1; have d4 := hW.kc g2; go_simp; (try with_reducible rfl)))))); (try simp only [Act.put, zA, zB, zC]))
        clear x0 x1 b1
        clear g1 g2
        refine run_end (L := []) rfl (fun W6 hW6 => ?_)
        have HT6 := zH (HT.out.trans hW6)
        clear hW6 HT
        have HT := HT6
        clear HT6
        go_wp2
        go_ret
        exact ⟨by rw [HR.out]; rfl, HS.out.trans (HTR.out.trans (HS3.out.trans HT.out))⟩
       have hc : decide (yu ≤ xc) = false := decide_eq_false c
       by_cases m : xm = 0
       rotate_left
       ·have hmm : (xm != 0) = true := by simpa using m
        have HR := zH (HNO.out (by rw [HF.out, decide_eq_true L, decide_eq_true z, decide_eq_true (show xc < yu by omega), decide_eq_false m]; rfl))
        clear z L m c
        refine wp_region_seq (kdOf [2, 41] []) (0 :: 1 :: 3 :: 7 :: 15 :: 31 :: 31 :: 95 :: 223 :: 511 :: 1023 :: 2047 :: 4095 :: 8191 :: 16383 :: 32767 :: 65535 :: 32767 :: 163839 :: 32767 :: 557055 :: 1998847 :: 4095999 :: 8290303 :: 16777215 :: 33554431 :: 67108863 :: 134217727 :: 268435455 :: 536870911 :: 1073741823 :: 2147483647 :: 4294967295 :: 8589934591 :: 17179869183 :: 34359738367 :: 68719476735 :: 137438953471 :: 274877906943 :: 549755813887 :: 1099511627775 :: 2199023255551 :: 4398046511103 :: 8796093022207 :: 17592186044415 :: []) (0 :: 1 :: 2 :: 3 :: 4 :: 5 :: 6 :: 7 :: 8 :: 9 :: 10 :: 11 :: 12 :: 13 :: 14 :: 15 :: 16 :: 17 :: 18 :: 19 :: 20 :: 21 :: 22 :: 23 :: 24 :: 25 :: 26 :: 27 :: 28 :: 29 :: 30 :: 31 :: 32 :: 33 :: 34 :: 35 :: 36 :: 37 :: 38 :: 39 :: 40 :: 41 :: 42 :: 43 :: 44 :: []) [] (by kernel_rfl) (by kernel_rfl) (fun i T z hi hk => by simp [kdOf] at hk <;> (try (split at hk <;> cases hk))) ?_
        intro Wx hWx
        have HTx := zH (HT.out.trans hWx)
        clear hWx HT
        have HT := HTx
        clear HTx
        have x0 := (HB3.out.step HT.out).cell 0
        have x1 := (HB3.out.step HT.out).cell 1
        have b1 := HT.out.kc HBC.out
        simp only [zD, zE] at x0 x1
        repeat ((first | (refine run_off rfl rfl (by rfl) ?_) | (refine run_chain_off rfl rfl (by rfl) (K0_mono _) ?_) | ((refine run_want rfl rfl (by rfl) ⟨?_, fun W hW => ?_, ?_⟩; rotate_left; (· (have d0 := hW.kc x0; have d1 := hW.kc x1; have d2 := hW.kc b1; go_simp; (try with_reducible rfl)))))); (try simp only [Act.put, zA, zB, zC]))
        clear x0 x1 b1
        refine run_chain rfl rfl (by rfl) (fun Wi hWi K' hK => ?_)
        have HTi := zH (HT.out.trans hWi)
        clear hWi HT
        go_simp
        refine (bigtopref01.In_any _ _ _ _).mono ?_
        rintro e wn ⟨rfl, rfl⟩
        rw [w1]
        have HT := HTi
        clear HTi
        refine hK _ _ (StepX.refl _ _) ?_
        (try simp only [Act.put, zA, zB, zC])
        have g1 := HT.out.kc HG.out.1
        have g2 := HT.out.kc HG.out.2
        have x0 := (HB3.out.step HT.out).cell 0
        have x1 := (HB3.out.step HT.out).cell 1
        have b1 := HT.out.kc HBC.out
        simp only [zD, zE] at x0 x1
        repeat ((first | (refine run_off rfl rfl (by rfl) ?_) | (refine run_chain_off rfl rfl (by rfl) (K0_mono _) ?_) | ((refine run_want rfl rfl (by rfl) ⟨?_, fun W hW => ?_, ?_⟩; rotate_left; (· (have d0 := hW.kc x0; have d1 := hW.kc x1; have d2 := hW.kc b1; have d3 := hW.kc g1; have d4 := hW.kc g2; go_simp; (try with_reducible rfl)))))); (try simp only [Act.put, zA, zB, zC]))
        clear x0 x1 b1
        clear g1 g2
        refine run_end (L := []) rfl (fun W6 hW6 => ?_)
        have HT6 := zH (HT.out.trans hW6)
        clear hW6 HT
        have HT := HT6
        clear HT6
        go_wp2
        go_ret
        exact ⟨by rw [HR.out]; rfl, HS.out.trans (HTR.out.trans (HS3.out.trans HT.out))⟩
       have hmm : (xm != 0) = false := by simpa using m
       have HLV := zH (show stRefB s.stages (j + 1 + 1 - 1) = true by (show stRefB s.stages (j + 1) = true); rw [HF.out, decide_eq_true L, decide_eq_true z, decide_eq_true (show xc < yu by omega), decide_eq_true m]; rfl)
       clear z L m c
       refine wp_region_seq (kdOf [2, 41] []) (0 :: 1 :: 3 :: 7 :: 15 :: 31 :: 31 :: 95 :: 223 :: 511 :: 1023 :: 2047 :: 4095 :: 8191 :: 16383 :: 32767 :: 65535 :: 32767 :: 163839 :: 32767 :: 557055 :: 1998847 :: 4095999 :: 8290303 :: 16777215 :: 33554431 :: 67108863 :: 134217727 :: 268435455 :: 536870911 :: 1073741823 :: 2147483647 :: 4294967295 :: 8589934591 :: 17179869183 :: 34359738367 :: 68719476735 :: 137438953471 :: 274877906943 :: 549755813887 :: 1099511627775 :: 2199023255551 :: 4398046511103 :: 8796093022207 :: 17592186044415 :: []) (0 :: 1 :: 2 :: 3 :: 4 :: 5 :: 6 :: 7 :: 8 :: 9 :: 10 :: 11 :: 12 :: 13 :: 14 :: 15 :: 16 :: 17 :: 18 :: 19 :: 20 :: 21 :: 22 :: 23 :: 24 :: 25 :: 26 :: 27 :: 28 :: 29 :: 30 :: 31 :: 32 :: 33 :: 34 :: 35 :: 36 :: 37 :: 38 :: 39 :: 40 :: 41 :: 42 :: 43 :: 44 :: []) [] (by kernel_rfl) (by kernel_rfl) (fun i T z hi hk => by simp [kdOf] at hk <;> (try (split at hk <;> cases hk))) ?_
       intro Wx hWx
       have HTx := zH (HT.out.trans hWx)
       clear hWx HT
       have HT := HTx
       clear HTx
       have x0 := (HB3.out.step HT.out).cell 0
       have x1 := (HB3.out.step HT.out).cell 1
       have b1 := HT.out.kc HBC.out
       simp only [zD, zE] at x0 x1
       repeat ((first | (refine run_off rfl rfl (by rfl) ?_) | (refine run_chain_off rfl rfl (by rfl) (K0_mono _) ?_) | ((refine run_want rfl rfl (by rfl) ⟨?_, fun W hW => ?_, ?_⟩; rotate_left; (· (have d0 := hW.kc x0; have d1 := hW.kc x1; have d2 := hW.kc b1; go_simp; (try with_reducible rfl)))))); (try simp only [Act.put, zA, zB, zC]))
       clear x0 x1 b1
       refine run_chain rfl rfl (by rfl) (fun Wi hWi K' hK => ?_)
       have HTi := zH (HT.out.trans hWi)
       clear hWi HT
       go_simp
       refine (bigtopref01.In_any _ _ _ _).mono ?_
       rintro e wn ⟨rfl, rfl⟩
       rw [w1]
       have HT := HTi
       clear HTi
       refine hK _ _ (StepX.refl _ _) ?_
       (try simp only [Act.put, zA, zB, zC])
       have g1 := HT.out.kc HG.out.1
       have g2 := HT.out.kc HG.out.2
       have x0 := (HB3.out.step HT.out).cell 0
       have x1 := (HB3.out.step HT.out).cell 1
       have b1 := HT.out.kc HBC.out
       simp only [zD, zE] at x0 x1
       repeat ((first | (refine run_off rfl rfl (by rfl) ?_) | (refine run_chain_off rfl rfl (by rfl) (K0_mono _) ?_) | ((refine run_want rfl rfl (by rfl) ⟨?_, fun W hW => ?_, ?_⟩; rotate_left; (· (have d0 := hW.kc x0; have d1 := hW.kc x1; have d2 := hW.kc b1; have d3 := hW.kc g1; have d4 := hW.kc g2; go_simp; (try with_reducible rfl)))))); (try simp only [Act.put, zA, zB, zC]))
       clear x0 x1 b1
       clear g1 g2
       refine run_end (L := []) rfl (fun W6 hW6 => ?_)
       have HT6 := zH (HT.out.trans hW6)
       clear hW6 HT
       have HT := HT6
       clear HT6
       go_wp2
       go_roundw
       case rel => exact ⟨j + 1 + 1, by omega, by go_num, fun i hi hl => if e : i + 1 = j + 1 + 1 then by (obtain rfl : i = j + 1 + 1 - 1 := by omega); exact HLV.out else HA.out i (by omega) hl, HTR.out.trans (HS3.out.trans HT.out)⟩
       case measure => simp [intOf]; omega
      have e8 : c8 = false := by rw [← HL8.out]; simp; omega
      subst e8
      by_cases z : xc = 0
      ·have hz : (xc == 0) = true := by simpa using z
       have HR := zH (HNO.out (by rw [HF.out, decide_eq_false L, decide_eq_true z]; rfl))
       clear z L
       refine wp_region_seq (kdOf [2, 41] []) (0 :: 1 :: 3 :: 7 :: 15 :: 31 :: 31 :: 95 :: 223 :: 511 :: 1023 :: 2047 :: 4095 :: 8191 :: 16383 :: 32767 :: 65535 :: 32767 :: 163839 :: 32767 :: 557055 :: 1998847 :: 4095999 :: 8290303 :: 16777215 :: 33554431 :: 67108863 :: 134217727 :: 268435455 :: 536870911 :: 1073741823 :: 2147483647 :: 4294967295 :: 8589934591 :: 17179869183 :: 34359738367 :: 68719476735 :: 137438953471 :: 274877906943 :: 549755813887 :: 1099511627775 :: 2199023255551 :: 4398046511103 :: 8796093022207 :: 17592186044415 :: []) (0 :: 1 :: 2 :: 3 :: 4 :: 5 :: 6 :: 7 :: 8 :: 9 :: 10 :: 11 :: 12 :: 13 :: 14 :: 15 :: 16 :: 17 :: 18 :: 19 :: 20 :: 21 :: 22 :: 23 :: 24 :: 25 :: 26 :: 27 :: 28 :: 29 :: 30 :: 31 :: 32 :: 33 :: 34 :: 35 :: 36 :: 37 :: 38 :: 39 :: 40 :: 41 :: 42 :: 43 :: 44 :: []) [] (by kernel_rfl) (by kernel_rfl) (fun i T z hi hk => by simp [kdOf] at hk <;> (try (split at hk <;> cases hk))) ?_
       intro Wx hWx
       have HTx := zH (HT.out.trans hWx)
       clear hWx HT
       have HT := HTx
       clear HTx
       have x0 := (HB3.out.step HT.out).cell 0
       have x1 := (HB3.out.step HT.out).cell 1
       have b1 := HT.out.kc HBC.out
       simp only [zD, zE] at x0 x1
       repeat ((first | (refine run_off rfl rfl (by rfl) ?_) | (refine run_chain_off rfl rfl (by rfl) (K0_mono _) ?_) | ((refine run_want rfl rfl (by rfl) ⟨?_, fun W hW => ?_, ?_⟩; rotate_left; (· (have d0 := hW.kc x0; have d1 := hW.kc x1; have d2 := hW.kc b1; go_simp; (try with_reducible rfl)))))); (try simp only [Act.put, zA, zB, zC]))
       clear x0 x1 b1
       refine run_chain rfl rfl (by rfl) (fun Wi hWi K' hK => ?_)
       have HTi := zH (HT.out.trans hWi)
       clear hWi HT
       go_simp
       refine (bigtopref01.In_any _ _ _ _).mono ?_
       rintro e wn ⟨rfl, rfl⟩
       rw [w1]
       have HT := HTi
       clear HTi
       refine hK _ _ (StepX.refl _ _) ?_
       (try simp only [Act.put, zA, zB, zC])
       have g1 := HT.out.kc HG.out.1
       have g2 := HT.out.kc HG.out.2
       have x0 := (HB3.out.step HT.out).cell 0
       have x1 := (HB3.out.step HT.out).cell 1
       have b1 := HT.out.kc HBC.out
       simp only [zD, zE] at x0 x1
       repeat ((first | (refine run_off rfl rfl (by rfl) ?_) | (refine run_chain_off rfl rfl (by rfl) (K0_mono _) ?_) | ((refine run_want rfl rfl (by rfl) ⟨?_, fun W hW => ?_, ?_⟩; rotate_left; (· (have d0 := hW.kc x0; have d1 := hW.kc x1; have d2 := hW.kc b1; have d3 := hW.kc g1; have d4 := hW.kc g2; go_simp; (try with_reducible rfl)))))); (try simp only [Act.put, zA, zB, zC]))
       clear x0 x1 b1
       clear g1 g2
       refine run_end (L := []) rfl (fun W6 hW6 => ?_)
       have HT6 := zH (HT.out.trans hW6)
       clear hW6 HT
       have HT := HT6
       clear HT6
       go_wp2
       go_ret
       exact ⟨by rw [HR.out]; rfl, HS.out.trans (HTR.out.trans (HS3.out.trans HT.out))⟩
      have hz : (xc == 0) = false := by simpa using z
      by_cases c : yu ≤ xc
      ·have hc : decide (yu ≤ xc) = true := decide_eq_true c
       have HR := zH (HNO.out (by rw [HF.out, decide_eq_false L, decide_eq_false z, decide_eq_false (show ¬ xc < yu by omega)]; rfl))
       clear z L c
       refine wp_region_seq (kdOf [2, 41] []) (0 :: 1 :: 3 :: 7 :: 15 :: 31 :: 31 :: 95 :: 223 :: 511 :: 1023 :: 2047 :: 4095 :: 8191 :: 16383 :: 32767 :: 65535 :: 32767 :: 163839 :: 32767 :: 557055 :: 1998847 :: 4095999 :: 8290303 :: 16777215 :: 33554431 :: 67108863 :: 134217727 :: 268435455 :: 536870911 :: 1073741823 :: 2147483647 :: 4294967295 :: 8589934591 :: 17179869183 :: 34359738367 :: 68719476735 :: 137438953471 :: 274877906943 :: 549755813887 :: 1099511627775 :: 2199023255551 :: 4398046511103 :: 8796093022207 :: 17592186044415 :: []) (0 :: 1 :: 2 :: 3 :: 4 :: 5 :: 6 :: 7 :: 8 :: 9 :: 10 :: 11 :: 12 :: 13 :: 14 :: 15 :: 16 :: 17 :: 18 :: 19 :: 20 :: 21 :: 22 :: 23 :: 24 :: 25 :: 26 :: 27 :: 28 :: 29 :: 30 :: 31 :: 32 :: 33 :: 34 :: 35 :: 36 :: 37 :: 38 :: 39 :: 40 :: 41 :: 42 :: 43 :: 44 :: []) [] (by kernel_rfl) (by kernel_rfl) (fun i T z hi hk => by simp [kdOf] at hk <;> (try (split at hk <;> cases hk))) ?_
       intro Wx hWx
       have HTx := zH (HT.out.trans hWx)
       clear hWx HT
       have HT := HTx
       clear HTx
       have x0 := (HB3.out.step HT.out).cell 0
       have x1 := (HB3.out.step HT.out).cell 1
       have b1 := HT.out.kc HBC.out
       simp only [zD, zE] at x0 x1
       repeat ((first | (refine run_off rfl rfl (by rfl) ?_) | (refine run_chain_off rfl rfl (by rfl) (K0_mono _) ?_) | ((refine run_want rfl rfl (by rfl) ⟨?_, fun W hW => ?_, ?_⟩; rotate_left; (· (have d0 := hW.kc x0; have d1 := hW.kc x1; have d2 := hW.kc b1; go_simp; (try with_reducible rfl)))))); (try simp only [Act.put, zA, zB, zC]))
       clear x0 x1 b1
       refine run_chain rfl rfl (by rfl) (fun Wi hWi K' hK => ?_)
       have HTi := zH (HT.out.trans hWi)
       clear hWi HT
       go_simp
       refine (bigtopref01.In_any _ _ _ _).mono ?_
       rintro e wn ⟨rfl, rfl⟩
       rw [w1]
       have HT := HTi
       clear HTi
       refine hK _ _ (StepX.refl _ _) ?_
       (try simp only [Act.put, zA, zB, zC])
       have g1 := HT.out.kc HG.out.1
       have g2 := HT.out.kc HG.out.2
       have x0 := (HB3.out.step HT.out).cell 0
       have x1 := (HB3.out.step HT.out).cell 1
       have b1 := HT.out.kc HBC.out
       simp only [zD, zE] at x0 x1
       repeat ((first | (refine run_off rfl rfl (by rfl) ?_) | (refine run_chain_off rfl rfl (by rfl) (K0_mono _) ?_) | ((refine run_want rfl rfl (by rfl) ⟨?_, fun W hW => ?_, ?_⟩; rotate_left; (· (have d0 := hW.kc x0; have d1 := hW.kc x1; have d2 := hW.kc b1; have d3 := hW.kc g1; have d4 := hW.kc g2; go_simp; (try with_reducible rfl)))))); (try simp only [Act.put, zA, zB, zC]))
       clear x0 x1 b1
       clear g1 g2
       refine run_end (L := []) rfl (fun W6 hW6 => ?_)
       have HT6 := zH (HT.out.trans hW6)
       clear hW6 HT
       have HT := HT6
       clear HT6
       go_wp2
       go_ret
       exact ⟨by rw [HR.out]; rfl, HS.out.trans (HTR.out.trans (HS3.out.trans HT.out))⟩
      have hc : decide (yu ≤ xc) = false := decide_eq_false c
      cases w3 : withinB xm 1 240 with
      | false =>
       have HR := zH (HNO.out (by rw [HF.out, decide_eq_false L, decide_eq_false z, decide_eq_true (show xc < yu by omega), w3]; rfl))
       clear z L c
       refine wp_region_seq (kdOf [2, 41] []) (0 :: 1 :: 3 :: 7 :: 15 :: 31 :: 31 :: 95 :: 223 :: 511 :: 1023 :: 2047 :: 4095 :: 8191 :: 16383 :: 32767 :: 65535 :: 32767 :: 163839 :: 32767 :: 557055 :: 1998847 :: 4095999 :: 8290303 :: 16777215 :: 33554431 :: 67108863 :: 134217727 :: 268435455 :: 536870911 :: 1073741823 :: 2147483647 :: 4294967295 :: 8589934591 :: 17179869183 :: 34359738367 :: 68719476735 :: 137438953471 :: 274877906943 :: 549755813887 :: 1099511627775 :: 2199023255551 :: 4398046511103 :: 8796093022207 :: 17592186044415 :: []) (0 :: 1 :: 2 :: 3 :: 4 :: 5 :: 6 :: 7 :: 8 :: 9 :: 10 :: 11 :: 12 :: 13 :: 14 :: 15 :: 16 :: 17 :: 18 :: 19 :: 20 :: 21 :: 22 :: 23 :: 24 :: 25 :: 26 :: 27 :: 28 :: 29 :: 30 :: 31 :: 32 :: 33 :: 34 :: 35 :: 36 :: 37 :: 38 :: 39 :: 40 :: 41 :: 42 :: 43 :: 44 :: []) [] (by kernel_rfl) (by kernel_rfl) (fun i T z hi hk => by simp [kdOf] at hk <;> (try (split at hk <;> cases hk))) ?_
       intro Wx hWx
       have HTx := zH (HT.out.trans hWx)
       clear hWx HT
       have HT := HTx
       clear HTx
       have x0 := (HB3.out.step HT.out).cell 0
       have x1 := (HB3.out.step HT.out).cell 1
       have b1 := HT.out.kc HBC.out
       simp only [zD, zE] at x0 x1
       repeat ((first | (refine run_off rfl rfl (by rfl) ?_) | (refine run_chain_off rfl rfl (by rfl) (K0_mono _) ?_) | ((refine run_want rfl rfl (by rfl) ⟨?_, fun W hW => ?_, ?_⟩; rotate_left; (· (have d0 := hW.kc x0; have d1 := hW.kc x1; have d2 := hW.kc b1; go_simp; (try with_reducible rfl)))))); (try simp only [Act.put, zA, zB, zC]))
       clear x0 x1 b1
       refine run_chain rfl rfl (by rfl) (fun Wi hWi K' hK => ?_)
       have HTi := zH (HT.out.trans hWi)
       clear hWi HT
       go_simp
       refine (bigtopref01.In_any _ _ _ _).mono ?_
       rintro e wn ⟨rfl, rfl⟩
       rw [w1]
       have HT := HTi
       clear HTi
       refine hK _ _ (StepX.refl _ _) ?_
       (try simp only [Act.put, zA, zB, zC])
       have g1 := HT.out.kc HG.out.1
       have g2 := HT.out.kc HG.out.2
       have x0 := (HB3.out.step HT.out).cell 0
       have x1 := (HB3.out.step HT.out).cell 1
       have b1 := HT.out.kc HBC.out
       simp only [zD, zE] at x0 x1
       repeat ((first | (refine run_off rfl rfl (by rfl) ?_) | (refine run_chain_off rfl rfl (by rfl) (K0_mono _) ?_) | ((refine run_want rfl rfl (by rfl) ⟨?_, fun W hW => ?_, ?_⟩; rotate_left; (· (have d0 := hW.kc x0; have d1 := hW.kc x1; have d2 := hW.kc b1; have d3 := hW.kc g1; have d4 := hW.kc g2; go_simp; (try with_reducible rfl)))))); (try simp only [Act.put, zA, zB, zC]))
       clear x0 x1 b1
       clear g1 g2
       refine run_chain rfl rfl (by rfl) (fun Wi hWi K' hK => ?_)
       have HTi := zH (HT.out.trans hWi)
       clear hWi HT
       go_simp
       refine (bigtopref01.In_any _ _ _ _).mono ?_
       rintro e wn ⟨rfl, rfl⟩
       rw [w3]
       have HT := HTi
       clear HTi
       refine hK _ _ (StepX.refl _ _) ?_
       (try simp only [Act.put, zA, zB, zC])
       have g1 := HT.out.kc HG.out.1
       have g2 := HT.out.kc HG.out.2
       have x0 := (HB3.out.step HT.out).cell 0
       have x1 := (HB3.out.step HT.out).cell 1
       have b1 := HT.out.kc HBC.out
       simp only [zD, zE] at x0 x1
       repeat ((first | (refine run_off rfl rfl (by rfl) ?_) | (refine run_chain_off rfl rfl (by rfl) (K0_mono _) ?_) | ((refine run_want rfl rfl (by rfl) ⟨?_, fun W hW => ?_, ?_⟩; rotate_left; (· (have d0 := hW.kc x0; have d1 := hW.kc x1; have d2 := hW.kc b1; have d3 := hW.kc g1; have d4 := hW.kc g2; go_simp; (try with_reducible rfl)))))); (try simp only [Act.put, zA, zB, zC]))
       clear x0 x1 b1
       clear g1 g2
       refine run_end (L := []) rfl (fun W6 hW6 => ?_)
       have HT6 := zH (HT.out.trans hW6)
       clear hW6 HT
       have HT := HT6
       clear HT6
       go_wp2
       go_ret
       exact ⟨by rw [HR.out]; rfl, HS.out.trans (HTR.out.trans (HS3.out.trans HT.out))⟩
      | true =>
       have HLV := zH (show stRefB s.stages (j + 1 + 1 - 1) = true by (show stRefB s.stages (j + 1) = true); rw [HF.out, decide_eq_false L, decide_eq_false z, decide_eq_true (show xc < yu by omega), w3]; rfl)
       clear z L c
       refine wp_region_seq (kdOf [2, 41] []) (0 :: 1 :: 3 :: 7 :: 15 :: 31 :: 31 :: 95 :: 223 :: 511 :: 1023 :: 2047 :: 4095 :: 8191 :: 16383 :: 32767 :: 65535 :: 32767 :: 163839 :: 32767 :: 557055 :: 1998847 :: 4095999 :: 8290303 :: 16777215 :: 33554431 :: 67108863 :: 134217727 :: 268435455 :: 536870911 :: 1073741823 :: 2147483647 :: 4294967295 :: 8589934591 :: 17179869183 :: 34359738367 :: 68719476735 :: 137438953471 :: 274877906943 :: 549755813887 :: 1099511627775 :: 2199023255551 :: 4398046511103 :: 8796093022207 :: 17592186044415 :: []) (0 :: 1 :: 2 :: 3 :: 4 :: 5 :: 6 :: 7 :: 8 :: 9 :: 10 :: 11 :: 12 :: 13 :: 14 :: 15 :: 16 :: 17 :: 18 :: 19 :: 20 :: 21 :: 22 :: 23 :: 24 :: 25 :: 26 :: 27 :: 28 :: 29 :: 30 :: 31 :: 32 :: 33 :: 34 :: 35 :: 36 :: 37 :: 38 :: 39 :: 40 :: 41 :: 42 :: 43 :: 44 :: []) [] (by kernel_rfl) (by kernel_rfl) (fun i T z hi hk => by simp [kdOf] at hk <;> (try (split at hk <;> cases hk))) ?_
       intro Wx hWx
       have HTx := zH (HT.out.trans hWx)
       clear hWx HT
       have HT := HTx
       clear HTx
       have x0 := (HB3.out.step HT.out).cell 0
       have x1 := (HB3.out.step HT.out).cell 1
       have b1 := HT.out.kc HBC.out
       simp only [zD, zE] at x0 x1
       repeat ((first | (refine run_off rfl rfl (by rfl) ?_) | (refine run_chain_off rfl rfl (by rfl) (K0_mono _) ?_) | ((refine run_want rfl rfl (by rfl) ⟨?_, fun W hW => ?_, ?_⟩; rotate_left; (· (have d0 := hW.kc x0; have d1 := hW.kc x1; have d2 := hW.kc b1; go_simp; (try with_reducible rfl)))))); (try simp only [Act.put, zA, zB, zC]))
       clear x0 x1 b1
       refine run_chain rfl rfl (by rfl) (fun Wi hWi K' hK => ?_)
       have HTi := zH (HT.out.trans hWi)
       clear hWi HT
       go_simp
       refine (bigtopref01.In_any _ _ _ _).mono ?_
       rintro e wn ⟨rfl, rfl⟩
       rw [w1]
       have HT := HTi
       clear HTi
       refine hK _ _ (StepX.refl _ _) ?_
       (try simp only [Act.put, zA, zB, zC])
       have g1 := HT.out.kc HG.out.1
       have g2 := HT.out.kc HG.out.2
       have x0 := (HB3.out.step HT.out).cell 0
       have x1 := (HB3.out.step HT.out).cell 1
       have b1 := HT.out.kc HBC.out
       simp only [zD, zE] at x0 x1
       repeat ((first | (refine run_off rfl rfl (by rfl) ?_) | (refine run_chain_off rfl rfl (by rfl) (K0_mono _) ?_) | ((refine run_want rfl rfl (by rfl) ⟨?_, fun W hW => ?_, ?_⟩; rotate_left; (· (have d0 := hW.kc x0; have d1 := hW.kc x1; have d2 := hW.kc b1; have d3 := hW.kc g1; have d4 := hW.kc g2; go_simp; (try with_reducible rfl)))))); (try simp only [Act.put, zA, zB, zC]))
       clear x0 x1 b1
       clear g1 g2
       refine run_chain rfl rfl (by rfl) (fun Wi hWi K' hK => ?_)
       have HTi := zH (HT.out.trans hWi)
       clear hWi HT
       go_simp
       refine (bigtopref01.In_any _ _ _ _).mono ?_
       rintro e wn ⟨rfl, rfl⟩
       rw [w3]
       have HT := HTi
       clear HTi
       refine hK _ _ (StepX.refl _ _) ?_
       (try simp only [Act.put, zA, zB, zC])
       have g1 := HT.out.kc HG.out.1
       have g2 := HT.out.kc HG.out.2
       have x0 := (HB3.out.step HT.out).cell 0
       have x1 := (HB3.out.step HT.out).cell 1
       have b1 := HT.out.kc HBC.out
       simp only [zD, zE] at x0 x1
       repeat ((first | (refine run_off rfl rfl (by rfl) ?_) | (refine run_chain_off rfl rfl (by rfl) (K0_mono _) ?_) | ((refine run_want rfl rfl (by rfl) ⟨?_, fun W hW => ?_, ?_⟩; rotate_left; (· (have d0 := hW.kc x0; have d1 := hW.kc x1; have d2 := hW.kc b1; have d3 := hW.kc g1; have d4 := hW.kc g2; go_simp; (try with_reducible rfl)))))); (try simp only [Act.put, zA, zB, zC]))
       clear x0 x1 b1
       clear g1 g2
       refine run_end (L := []) rfl (fun W6 hW6 => ?_)
       have HT6 := zH (HT.out.trans hW6)
       clear hW6 HT
       have HT := HT6
       clear HT6
       go_wp2
       go_roundw
       case rel => exact ⟨j + 1 + 1, by omega, by go_num, fun i hi hl => if e : i + 1 = j + 1 + 1 then by (obtain rfl : i = j + 1 + 1 - 1 := by omega); exact HLV.out else HA.out i (by omega) hl, HTR.out.trans (HS3.out.trans HT.out)⟩
       case measure => simp [intOf]; omega
    have HFIN := zH (show siteB s = (withinB s.base.length 1 12 && withinB s.levels.length 1 10 && withinB s.stages.length 2 8 && withinB s.openS 0 ((s.stages.length : Int) - 2)) by
     have hst : (List.range s.stages.length).all (stRefB s.stages) = true := by
      rw [List.all_eq_true]
      intro i hi
      rw [List.mem_range] at hi
      exact HA.out i (by omega) hi
     rw [HSR.out, HBW.out, HLW.out, hst]; simp only [Bool.true_and])
    have hwn : IntKind.i64.wrap ((s.stages.length : Int) - 2) = (s.stages.length : Int) - 2 := by rw [IntKind.wrap_i64]; omega
    have v0 := (HB.out.step HTR.out).cell 0
    have v1 := (HB.out.step HTR.out).cell 1
    have v2 := (HB.out.step HTR.out).cell 2
    have v3 := (HB.out.step HTR.out).cell 3
    simp only [zD, zE] at v0 v1 v2 v3
    clear b2 HA hk
    go_wp2_with fail
    refine (bigtopref01.In_any _ _ _ _).mono ?_
    rintro e wn ⟨rfl, rfl⟩
    cases w1 : withinB s.base.length 1 12 with
    | false =>
     have HR := zH (show siteB s = false by rw [HFIN.out, w1]; rfl)
     clear w1
     go_wp2
     go_ret
     exact ⟨by rw [HR.out]; rfl, HS.out.trans HTR.out⟩
    | true =>
    go_wp2_with fail
    refine (bigtopref01.In_any _ _ _ _).mono ?_
    rintro e wn ⟨rfl, rfl⟩
    cases w2 : withinB s.levels.length 1 10 with
    | false =>
     have HR := zH (show siteB s = false by rw [HFIN.out, w1, w2]; rfl)
     clear w1 w2
     go_wp2
     go_ret
     exact ⟨by rw [HR.out]; rfl, HS.out.trans HTR.out⟩
    | true =>
    go_wp2_with fail
    refine (bigtopref01.In_any _ _ _ _).mono ?_
    rintro e wn ⟨rfl, rfl⟩
    cases w3 : withinB s.stages.length 2 8 with
    | false =>
     have HR := zH (show siteB s = false by rw [HFIN.out, w1, w2, w3]; rfl)
     clear w1 w2 w3
     go_wp2
     go_ret
     exact ⟨by rw [HR.out]; rfl, HS.out.trans HTR.out⟩
    | true =>
    go_wp2_with fail
    refine (bigtopref01.In_any _ _ _ _).mono ?_
    rintro e wn ⟨rfl, rfl⟩
    have HR := zH (show siteB s = withinB s.openS 0 ((s.stages.length : Int) - 2) by rw [HFIN.out, w1, w2, w3]; rfl)
    clear w1 w2 w3
    go_wp2
    go_ret
    exact ⟨by rw [HR.out]; rfl, HS.out.trans HTR.out⟩
end Go.Proofs.Ytfhmdpicoccnfaa
namespace Go.BT
section
variable {l : List Fc} {rs : List Rdg} {k : Nat} {f : Fc} {wind : List Int}
end
end Go.BT
namespace Go.BT
set_option linter.unusedVariables false
structure Chain (s : Site) (out : Int) (k : Nat) (st : PlanS) : Prop where
 len : st.begin_.length = s.stages.length
 low : ∀ i, i < s.stages.length - k → st.begin_.getD i 0 = -1
 next : ∀ j, s.stages.length - k ≤ j → j < s.stages.length → 0 ≤ st.begin_.getD j 0 → st.next ≤ st.begin_.getD j 0
 ends : ∀ i j, s.stages.length - k ≤ i → i < j → j < s.stages.length → 0 ≤ st.begin_.getD i 0 → 0 ≤ st.begin_.getD j 0 → st.begin_.getD i 0 + minutesAt s i ≤ st.begin_.getD j 0
 call : ∀ i, s.stages.length - k ≤ i → i < s.stages.length → (i : Int) = s.openS → 0 ≤ st.begin_.getD i 0 → 0 ≤ st.call ∧ st.call + out = st.begin_.getD i 0
theorem plan_chain {s : Site} {limits worst : List Int} {out : Int} (hm : ∀ i, 0 ≤ minutesAt s i) : ∀ (k : Nat) (hk : k ≤ s.stages.length) (st : PlanS), planTo s limits worst out k = some st → Chain s out k st
 | 0, hk, st, h => by
  unfold planTo at h
  obtain rfl := Option.some.inj h
  have e : ∀ i, i < s.stages.length → (List.replicate s.stages.length (-1 : Int)).getD i 0 = -1 := fun i hi => by
   simp only [List.getD_eq_getElem?_getD, List.getElem?_replicate]
   rw [if_pos hi]; rfl
  exact ⟨by simp, fun i hi => e i (by omega), fun j h1 h2 => by omega, fun i j h1 h2 h3 => by omega, fun i h1 h2 => by omega⟩
 | k + 1, hk, st, h => by
  unfold planTo at h
  cases hp : planTo s limits worst out k with
  | none => rw [hp] at h; simp at h
  | some st0 =>
   rw [hp] at h
   have C := plan_chain hm k (by omega) st0 hp
   simp only [planStep] at h
   cases hd : deadI worst (limits.getD (s.stages.length - 1 - k) 0) with
   | none =>
    rw [hd] at h
    obtain rfl := Option.some.inj h
    have hz := C.low (s.stages.length - 1 - k) (by omega)
    refine ⟨C.len, fun i hi => C.low i (by omega), fun j h1 h2 h3 => ?_, fun i j h1 h2 h3 h4 h5 => ?_, fun i h1 h2 h3 h4 => ?_⟩
    ·by_cases e : j = s.stages.length - 1 - k
     ·subst e; omega
     ·exact C.next j (by omega) h2 h3
    ·by_cases e : i = s.stages.length - 1 - k
     ·subst e; omega
     ·exact C.ends i j (by omega) h2 h3 h4 h5
    ·by_cases e : i = s.stages.length - 1 - k
     ·subst e; omega
     ·exact C.call i (by omega) h2 h3 h4
   | some d =>
    rw [hd] at h
    simp only at h
    split at h
    ·simp at h
    ·rename_i hn
     obtain rfl := Option.some.inj h
     have b0 : ¬ leftAt s st0 (s.stages.length - 1 - k) d < 0 := fun q => hn (.inl q)
     have hle : leftAt s st0 (s.stages.length - 1 - k) d + minutesAt s (s.stages.length - 1 - k) ≤ st0.next := by unfold leftAt; omega
     have hmi := hm (s.stages.length - 1 - k)
     have hlen := C.len
     have key : ∀ i, i < s.stages.length → (st0.begin_.set (s.stages.length - 1 - k) (leftAt s st0 (s.stages.length - 1 - k) d)).getD i 0 = if i = s.stages.length - 1 - k then leftAt s st0 (s.stages.length - 1 - k) d else st0.begin_.getD i 0 := fun i hi => by
      simp only [List.getD_eq_getElem?_getD, List.getElem?_set]
      by_cases e : s.stages.length - 1 - k = i
      ·subst e
       rw [if_pos rfl, if_pos (by omega), if_pos rfl]; rfl
      ·rw [if_neg e, if_neg (Ne.symm e)]
     refine ⟨by simpa using C.len, fun i hi => ?_, fun j h1 h2 h3 => ?_, fun i j h1 h2 h3 h4 h5 => ?_, fun i h1 h2 h3 h4 => ?_⟩
     ·dsimp only
      rw [key i (by omega), if_neg (by omega)]; exact C.low i (by omega)
     ·dsimp only at h3 ⊢
      rw [key j h2] at h3 ⊢
      split at h3
      ·rename_i e; rw [if_pos e]; exact Int.le_refl _
      ·rename_i e
       rw [if_neg e]
       have := C.next j (by omega) h2 h3
       omega
     ·dsimp only at h4 h5 ⊢
      rw [key i (by omega)] at h4 ⊢
      rw [key j h3] at h5 ⊢
      rw [if_neg (show ¬ j = s.stages.length - 1 - k by omega)] at h5 ⊢
      split at h4
      ·rename_i e
       rw [if_pos e, e]
       have := C.next j (by omega) h3 h5
       omega
      ·rename_i e
       rw [if_neg e]
       exact C.ends i j (by omega) h2 h3 h4 h5
     ·dsimp only at h4 ⊢
      rw [key i h2] at h4 ⊢
      split at h4
      ·rename_i e
       subst e
       rw [if_pos rfl, if_pos h3]
       have : ¬ (leftAt s st0 (s.stages.length - 1 - k) d - out < 0) := fun q => hn (.inr ⟨h3, q⟩)
       omega
      ·rename_i e
       rw [if_neg e]
       have hne : ¬ (((s.stages.length - 1 - k : Nat) : Int) = s.openS) := fun q => by omega
       rw [if_neg hne]
       exact C.call i (by omega) h2 h3 h4
end Go.BT
namespace Go.Proofs.Ytfhmdpicoccnfaa
set_option linter.unusedSimpArgs false
set_option linter.unusedVariables false
open Go.RowKit Go.BT
theorem siGSite : SI Try.prog 63 4 := ⟨⟨_, Try.underlying63⟩, by kernel_rfl⟩
theorem infoLvlG : (Try.prog.info? 135).map (fun i => (i.zero, i.size, i.bytes)) = some (some (.agg #[.int .i64 0, .int .i64 0]), 2, 16) := by kernel_rfl
theorem eiLvls : EI Try.prog 60 135 (.agg #[.int .i64 0, .int .i64 0]) 2 16 := .mk' Try.underlying60 infoLvlG rfl
theorem infoStgG : (Try.prog.info? 131).map (fun i => (i.zero, i.size, i.bytes)) = some (some (.agg #[.int .i64 0, .int .i64 0]), 2, 16) := by kernel_rfl
theorem eiStgs : EI Try.prog 61 131 (.agg #[.int .i64 0, .int .i64 0]) 2 16 := .mk' Try.underlying61 infoStgG rfl
theorem SiteL_any (S : Nat → Prop) (s : Site) (v : Value) (w : World) (hv : AV S w v s) (f0 : s.base.length ≤ 1000) (f1 : s.levels.length ≤ 1000) (f2 : s.stages.length ≤ 1000) :
  Calls Try.prog 27 #[v] w fun e w' => ∃ v', e = .returned v' ∧ AV (Old w) w' v' s ∧ Step w w' := by
 obtain ⟨c0, c1, c2, rfl, h0, h1, h2⟩ := hv.site
 obtain ⟨p0, k0, rfl⟩ := h0.form
 obtain ⟨p1, k1, b1, o1, rfl, _, m1, hp1, hc1, _⟩ := h1.lvls
 obtain ⟨p2, k2, b2, o2, rfl, _, m2, hp2, hc2, _⟩ := h2.stgs
 obtain ⟨W0, hW0⟩ : ∃ W, W = (w.alloc (.cells #[.slice p0 s.base.length k0, .slice p1 s.levels.length k1, .slice p2 s.stages.length k2, .int .i64 s.openS] 55)).alloc (.cells #[.slice none 0 0, .slice none 0 0, .slice none 0 0, .int .i64 0] 63) := ⟨_, rfl⟩
 have hS : Step w W0 := by subst hW0; exact (by with_reducible repeat (first | assumption | exact Step.refl _ | apply Step.s_alloc | apply Step.s_drew | apply Step.s_drewN | refine Step.trans ?_ (by assumption)))
 have HBX := zH (show Bx W0 w.heap.size [.slice p0 s.base.length k0, .slice p1 s.levels.length k1, .slice p2 s.stages.length k2, .int .i64 s.openS] 55 by subst hW0; exact (Bx.new w [_, _, _, _] _).step (Step.alloc _ _))
 have HBR := zH (show Bx W0 (w.heap.size + 1) [.slice none 0 0, .slice none 0 0, .slice none 0 0, .int .i64 0] 63 by subst hW0; exact Bx.new' _ [_, _, _, _] _ _ (by simp))
 have HZ := zH (show W0.heap.size = w.heap.size + 2 by subst hW0; simp)
 have HW := zH hW0
 have HS := zH hS
 have HV0 := zH (h0.keep (Keeps.of_step hS))
 have H1 := zH (And.intro hp1 hc1)
 have H2 := zH (And.intro hp2 hc2)
 clear hv h0 h1 h2 hp1 hc1 hp2 hc2 hW0 hS
 go_enter Try.func27, Try.ntmps27
 go_upto_region 1 with (fail)
 rw [← HW.out]
 go_cut [3] (fun s3 wx => ∃ g q0, s3 = .pointer (some ⟨g, 0, none⟩) ∧ w.heap.size + 2 ≤ g ∧ Bx wx g [q0, .slice none 0 0, .slice none 0 0, .int .i64 s.openS] 63 ∧ SL (fun j => j < w.heap.size + 2 ∨ j = g) wx q0 s.base ∧ Step W0 wx)
 case first =>
  refine wp_region_seq (kdOf [2] [(6, 63, .agg #[.slice none 0 0, .slice none 0 0, .slice none 0 0, .int .i64 0])]) [0, 1, 3, 0, 8, 31, 0, 127] [0, 1, 3, 4, 2, 5, 6] [7] (by kernel_rfl) (by kernel_rfl) (fun i T z hi hk => by simp only [List.mem_cons, List.not_mem_nil, or_false] at hi; rcases hi with rfl | rfl | rfl | rfl | rfl | rfl | rfl <;> simp [kdOf] at hk <;> (obtain ⟨rfl, rfl⟩ := hk; first | (show Option.bind _ _ = some _; kernel_rfl) | (refine ⟨_, rfl, fun _ _ => ?_⟩; go_simp))) ?_
  intro Wx hWx
  have HT := zH ((Step.refl W0).trans hWx)
  clear hWx
  have b0 := (HBX.out.step HT.out).cell 0
  have b3 := (HBX.out.step HT.out).cell 3
  simp only [zD, zE] at b0 b3
  repeat ((first | (refine run_off rfl rfl (by rfl) ?_) | (refine run_chain_off rfl rfl (by rfl) (K0_mono _) ?_) | ((refine run_want rfl rfl (by rfl) ⟨?_, fun W hW => ?_, ?_⟩; rotate_left; (· (have d0 := hW.kc b0; have d1 := hW.kc b3; go_simp; (try with_reducible rfl)))))); (try simp only [Act.put, zA, zB, zC]))
  clear b0 b3
  refine run_chain rfl rfl (by rfl) (fun W1 hW1 K' hK => ?_)
  have HT1 := zH (HT.out.trans hW1)
  have HV1 := zH (HV0.out.keep (Keeps.of_step (HT.out.trans hW1)))
  clear hW1 HT
  go_simp
  refine (Wind_any _ _ _ _ HV1.out f0).mono ?_
  rintro e w1 ⟨v1, rfl, hv1, hSn⟩
  obtain ⟨r1, n1, rfl⟩ := hv1.form
  have HQ := zH (And.intro hv1 hSn)
  have HT := zH (HT1.out.trans hSn)
  refine hK _ _ hSn ?_
  clear hv1 hSn
  (try simp only [Act.put, zA, zB, zC])
  have b0 := (HBX.out.step HT.out).cell 0
  have b3 := (HBX.out.step HT.out).cell 3
  simp only [zD, zE] at b0 b3
  repeat ((first | (refine run_off rfl rfl (by rfl) ?_) | (refine run_chain_off rfl rfl (by rfl) (K0_mono _) ?_) | ((refine run_want rfl rfl (by rfl) ⟨?_, fun W hW => ?_, ?_⟩; rotate_left; (· (have d0 := hW.kc b0; have d1 := hW.kc b3; go_simp; (try with_reducible rfl)))))); (try simp only [Act.put, zA, zB, zC]))
  clear b0 b3
  refine run_alloc rfl rfl (fun W5 g hW5 hg hgb hgN => ?_)
  (try simp only [Act.put, zA, zB, zC])
  refine run_end (L := [_]) rfl (fun W6 hW6 => ?_)
  have hb6 := Bx.step (w := W5) (cs := [_, _, _, _]) hg hW6
  refine wpl_store (v := .agg #[.slice r1 s.base.length n1, .slice none 0 0, .slice none 0 0, .int .i64 s.openS]) rfl _ _ _ rfl rfl rfl hb6 (by kernel_rfl) (by simp [Value.cells]) (by simp [Value.cells, Value.oneCell']) [.slice r1 s.base.length n1, .slice none 0 0, .slice none 0 0, .int .i64 s.openS] rfl (fun w7 hb7 hw7 => ?_)
  have n2 := hgN.2
  have z0 := HZ.out
  have z1 := HT1.out.size
  have z2 := HQ.out.2.size
  have z5 := hW5.size
  have q1 := SL.later (S := fun j => j < w.heap.size + 2 ∨ j = g) (w' := w7) HQ.out.1 (fun j hj hs => by omega) ((Keeps.of_step (hW5.trans hW6)).trans (Keeps.wrote hw7 (.inr rfl)))
  have q5 := Step.wrote (HT.out.trans (hW5.trans hW6)) hw7 hgb
  have HF := zH (And.intro hb7 (And.intro q1 (And.intro q5 hgb)))
  clear hb6 hb7 hw7 q1 q5 hW5 hW6 hg hgN n2 hgb
  go_wp2_with fail
  go_meet
  exact ⟨g, _, rfl, by have := HF.out.2.2.2; omega, HF.out.1, HF.out.2.1, HF.out.2.2.1⟩
 case rest =>
  obtain ⟨g, q0, rfl, hg2, hbg, hq0, htc⟩ := hcut
  obtain ⟨r0, n0, rfl⟩ := hq0.form
  have HG := zH hg2
  have HBG := zH hbg
  have HQ0 := zH hq0
  have HTC := zH htc
  clear hg2 hbg hq0 htc
  go_upto_region 3 with (fail)
  go_loopw [4] (fun i wr => ∃ (k : Nat) (q : Value), k ≤ s.levels.length ∧ i = .int .i64 k ∧ Bx wr g [.slice r0 s.base.length n0, q, .slice none 0 0, .int .i64 s.openS] 63 ∧ OwnL (fun _ => False) wc.heap.size 135 wr q (s.levels.take k) ∧ StepX (fun x => x = g) wc wr) (fun i _ => s.levels.length - (intOf i).toNat)
  case atStart => exact ⟨0, _, Nat.zero_le _, rfl, HBG.out, OwnL.nil _ _ _ _, StepX.refl _ _⟩
  case round =>
   obtain ⟨k, q, hk, rfl, hbj, hoj, hX⟩ := hrel
   have HBJ := zH hbj
   have HOJ := zH hoj
   have HX := zH hX
   obtain ⟨LL, hLL⟩ : ∃ L, L = s.levels.take k := ⟨_, rfl⟩
   rw [← hLL] at hoj
   obtain ⟨pq, cq, rfl, _⟩ := hoj.form
   have HNE := zH (show (Value.slice pq LL.length cq).ownBlock ≠ some g from fun e => by have := (hoj.lt _ e).1; have := HBG.out.lt; omega)
   have HLL := zH hLL
   clear hbj hoj hX hLL
   have hcell : ∀ b o u, W0.cell? ⟨b, o, none⟩ = some u → wr.cell? ⟨b, o, none⟩ = some u := fun b o u hu => HX.out.keeps.cell (a := ⟨b, o, none⟩) (by have := World.block_lt_of_cell? W0 _ hu; have := HG.out; have := HZ.out; show ¬ b = g; dsimp only at *; omega) (HTC.out.kc hu)
   have x1 := HBX.out.cell 1
   simp only [zD, zE] at x1
   have x1 := hcell _ _ _ x1
   by_cases hlt : k < s.levels.length
   ·obtain rfl := H1.out.1 (by omega)
    obtain ⟨g1, g2⟩ := H1.out.2 k hlt
    have g1 := hcell _ _ _ (HS.out.kc g1)
    have g2 := hcell _ _ _ (HS.out.kc g2)
    have m := HBJ.out.cell 1
    simp only [zD, zE] at m
    have hjx : (0 : Int) ≤ (k : Int) ∧ (k : Int) < (s.levels.length : Int) := by omega
    obtain ⟨y, hy⟩ : ∃ y, y = s.levels[k] := ⟨_, rfl⟩
    rw [← hy] at g1 g2
    have HY := zH hy
    have HE := zH (And.intro x1 (And.intro g1 (And.intro g2 m)))
    clear hcell hy
    go_upto_region 5 with (fail)
    clear x1 g1 g2 m
    refine wp_region_seq (kdOf [15] []) [0, 1, 0, 4, 0, 28, 60, 124, 0, 256, 0, 1792, 3840, 7936, 16380, 32764, 65535, 131071, 262143] [0, 1, 2, 3, 4, 5, 6, 7, 8, 9, 10, 11, 12, 13, 14, 15] [16, 17, 18] (by kernel_rfl) (by kernel_rfl) (fun i T z hi hk => by simp [kdOf] at hk <;> (try (split at hk <;> cases hk))) ?_
    intro Wx hWx
    have HT := zH ((Step.refl wr).trans hWx)
    clear hWx
    have x1 := HT.out.kc HE.out.1
    have g1 := HT.out.kc HE.out.2.1
    have g2 := HT.out.kc HE.out.2.2.1
    have m := HT.out.kc HE.out.2.2.2
    repeat ((first | (refine run_off rfl rfl (by rfl) ?_) | (refine run_chain_off rfl rfl (by rfl) (K0_mono _) ?_) | ((refine run_want rfl rfl (by rfl) ⟨?_, fun W hW => ?_, ?_⟩; rotate_left; (· (have d0 := hW.kc x1; have d1 := hW.kc g1; have d2 := hW.kc g2; have d3 := hW.kc m; go_simp; (try with_reducible rfl)))))); (try simp only [Act.put, zA, zB, zC]))
    clear x1 g1 g2 m
    refine run_chain rfl rfl (by rfl) (fun W1 hW1 K' hK' => ?_)
    go_simp
    refine hK' _ _ (.of (Step.alloc _ _)) ?_
    (try simp only [Act.put, zA, zB, zC])
    refine run_end (L := [_, _, _]) rfl (fun W2 hW2 => ?_)
    have hST := HT.out.trans hW1
    have hown2 := ((HOJ.out.step hST).alloc (.cells #[.int .i64 y.upto, .int .i64 y.push] 135)).step hW2
    have hu := (SLe.one (S := avoid (fun _ => False) (.slice pq LL.length cq)) (w := W1) (cs := [.int .i64 y.upto, .int .i64 y.push]) (x := y) 135 rfl).step hW2
    rw [show [y] = [s.levels[k]] by rw [HY.out]] at hu
    have b3 := ((HBJ.out.step hST).alloc (.cells #[.int .i64 y.upto, .int .i64 y.push] 135)).step hW2
    have hX2 := ((HX.out.trans (.of hST)).alloc' (.cells #[.int .i64 y.upto, .int .i64 y.push] 135)).trans (.of hW2)
    clear hW1 hW2 hK' hST
    go_wp2_with (at_builtin; refine wpl_append1 (W0 := W2) (l := s.levels) (k := k) eiLvls rfl _ _ rfl rfl rfl hown2 hlt (by omega) (by decide) hu (Below.refl _ _) hX2.size ?_)
    intro p' c' w3 hown3 _ hg
    have b4 := b3.keep (S := fun j => (Value.slice pq LL.length cq).ownBlock = some j) (.grown hg fun j hj _ => hj) HNE.out
    have m := b4.cell 1
    simp only [zD, zE] at m
    have z1 := b4.frozen 1
    have yl := b4.lt
    have hX3 : StepX (fun x => x = g) wc w3 := hX2.over (X := fun j => (Value.slice pq LL.length cq).ownBlock = some j) (.grown hg fun j hj _ => hj) fun j hj => .inl (HOJ.out.lt j hj).1
    have hn3 : (Value.slice p' (k + 1) c').ownBlock ≠ some g := fun e => by have := (hown3.lt _ e).1; have := HBG.out.lt; omega
    have H3 := zH (And.intro hown3 (And.intro b4 (And.intro hX3 hn3)))
    clear hown2 hu b3 hX2 hown3 hg b4 hX3 hn3
    go_wp2
    go_roundw
    case rel => exact ⟨k + 1, _, by omega, by go_num, H3.out.2.1.setCell 1 _, ownL_flat _ ((ownL_flat (fun j => j = g) H3.out.1).wrote (.setCell _ _ _ _) rfl H3.out.2.2.2), H3.out.2.2.1.setCell ⟨g, 1, none⟩ _ rfl⟩
    case measure => simp [intOf]; omega
   ·have HN2 := zH (show LL = s.levels by rw [HLL.out, List.take_of_length_le (by omega)])
    have hst := HX.out
    have hog := HOJ.out
    rw [← HLL.out, HN2.out] at hog
    have hbg := HBJ.out
    rw [HN2.out] at hbg
    have hq0 := HQ0.out.keep (HX.out.keeps.mono fun j _ hj => .inr hj)
    have hq1 := (ownL_flat (fun j => j < w.heap.size + 2 ∨ j = g) hog).sl (S := fun j => j < w.heap.size + 2 ∨ j = g) fun g' h1 h2 ha => by have := HBG.out.lt; have := HTC.out.size; have := HZ.out; omega
    have htw : StepX (fun x => x = g) W0 wr := (StepX.of HTC.out).trans HX.out
    clear HBG HQ0 HTC
    have HBG := zH hbg
    have HQ0 := zH hq0
    have HQ1 := zH hq1
    have HTC := zH htw
    obtain ⟨wd, hwd⟩ : ∃ W, W = wr := ⟨_, rfl⟩
    subst hwd
    clear hst hog hbg hq0 hq1 htw HX HBJ HOJ HNE hcell
    go_upto_region 7 with (fail)
    clear hlt hk x1
    go_loopw [5] (fun i wr => ∃ (k : Nat) (q : Value), k ≤ s.stages.length ∧ i = .int .i64 k ∧ Bx wr g [.slice r0 s.base.length n0, .slice pq s.levels.length cq, q, .int .i64 s.openS] 63 ∧ OwnL (fun _ => False) wd.heap.size 131 wr q (s.stages.take k) ∧ StepX (fun x => x = g) wd wr) (fun i _ => s.stages.length - (intOf i).toNat)
    case atStart => exact ⟨0, _, Nat.zero_le _, rfl, HBG.out, OwnL.nil _ _ _ _, StepX.refl _ _⟩
    case round =>
     obtain ⟨k, q, hk, rfl, hbj, hoj, hX⟩ := hrel
     have HBJ := zH hbj
     have HOJ := zH hoj
     have HX := zH hX
     obtain ⟨LL, hLL⟩ : ∃ L, L = s.stages.take k := ⟨_, rfl⟩
     rw [← hLL] at hoj
     obtain ⟨pu, cu, rfl, _⟩ := hoj.form
     have HNE := zH (show (Value.slice pu LL.length cu).ownBlock ≠ some g from fun e => by have := (hoj.lt _ e).1; have := HBG.out.lt; omega)
     have HLL := zH hLL
     clear hbj hoj hX hLL
     have hcell : ∀ b o u, W0.cell? ⟨b, o, none⟩ = some u → wr.cell? ⟨b, o, none⟩ = some u := fun b o u hu => HX.out.keeps.cell (a := ⟨b, o, none⟩) (by have := World.block_lt_of_cell? W0 _ hu; have := HG.out; have := HZ.out; show ¬ b = g; dsimp only at *; omega) (HTC.out.keeps.cell (a := ⟨b, o, none⟩) (by have := World.block_lt_of_cell? W0 _ hu; have := HG.out; have := HZ.out; show ¬ b = g; dsimp only at *; omega) hu)
     have x1 := HBX.out.cell 2
     simp only [zD, zE] at x1
     have x1 := hcell _ _ _ x1
     by_cases hlt : k < s.stages.length
     ·obtain rfl := H2.out.1 (by omega)
      obtain ⟨g1, g2⟩ := H2.out.2 k hlt
      have g1 := hcell _ _ _ (HS.out.kc g1)
      have g2 := hcell _ _ _ (HS.out.kc g2)
      have m := HBJ.out.cell 2
      simp only [zD, zE] at m
      have hjx : (0 : Int) ≤ (k : Int) ∧ (k : Int) < (s.stages.length : Int) := by omega
      obtain ⟨y, hy⟩ : ∃ y, y = s.stages[k] := ⟨_, rfl⟩
      rw [← hy] at g1 g2
      have HY := zH hy
      have HE := zH (And.intro x1 (And.intro g1 (And.intro g2 m)))
      clear hcell hy
      go_upto_region 9 with (fail)
      clear x1 g1 g2 m
      refine wp_region_seq (kdOf [15] []) [0, 1, 0, 4, 0, 28, 60, 124, 0, 256, 0, 1792, 3840, 7936, 16380, 32764, 65535, 131071, 262143] [0, 1, 2, 3, 4, 5, 6, 7, 8, 9, 10, 11, 12, 13, 14, 15] [16, 17, 18] (by kernel_rfl) (by kernel_rfl) (fun i T z hi hk => by simp [kdOf] at hk <;> (try (split at hk <;> cases hk))) ?_
      intro Wx hWx
      have HT := zH ((Step.refl wr).trans hWx)
      clear hWx
      have x1 := HT.out.kc HE.out.1
      have g1 := HT.out.kc HE.out.2.1
      have g2 := HT.out.kc HE.out.2.2.1
      have m := HT.out.kc HE.out.2.2.2
      repeat ((first | (refine run_off rfl rfl (by rfl) ?_) | (refine run_chain_off rfl rfl (by rfl) (K0_mono _) ?_) | ((refine run_want rfl rfl (by rfl) ⟨?_, fun W hW => ?_, ?_⟩; rotate_left; (· (have d0 := hW.kc x1; have d1 := hW.kc g1; have d2 := hW.kc g2; have d3 := hW.kc m; go_simp; (try with_reducible rfl)))))); (try simp only [Act.put, zA, zB, zC]))
      clear x1 g1 g2 m
      refine run_chain rfl rfl (by rfl) (fun W1 hW1 K' hK' => ?_)
      go_simp
      refine hK' _ _ (.of (Step.alloc _ _)) ?_
      (try simp only [Act.put, zA, zB, zC])
      refine run_end (L := [_, _, _]) rfl (fun W2 hW2 => ?_)
      have hST := HT.out.trans hW1
      have hown2 := ((HOJ.out.step hST).alloc (.cells #[.int .i64 y.cover, .int .i64 y.minutes] 131)).step hW2
      have hu := (SLe.one (S := avoid (fun _ => False) (.slice pu LL.length cu)) (w := W1) (cs := [.int .i64 y.cover, .int .i64 y.minutes]) (x := y) 131 rfl).step hW2
      rw [show [y] = [s.stages[k]] by rw [HY.out]] at hu
      have b3 := ((HBJ.out.step hST).alloc (.cells #[.int .i64 y.cover, .int .i64 y.minutes] 131)).step hW2
      have hX2 := ((HX.out.trans (.of hST)).alloc' (.cells #[.int .i64 y.cover, .int .i64 y.minutes] 131)).trans (.of hW2)
      clear hW1 hW2 hK' hST
      go_wp2_with (at_builtin; refine wpl_append1 (W0 := W2) (l := s.stages) (k := k) eiStgs rfl _ _ rfl rfl rfl hown2 hlt (by omega) (by decide) hu (Below.refl _ _) hX2.size ?_)
      intro p' c' w3 hown3 _ hg
      have b4 := b3.keep (S := fun j => (Value.slice pu LL.length cu).ownBlock = some j) (.grown hg fun j hj _ => hj) HNE.out
      have m := b4.cell 2
      simp only [zD, zE] at m
      have z1 := b4.frozen 2
      have yl := b4.lt
      have hX3 : StepX (fun x => x = g) wd w3 := hX2.over (X := fun j => (Value.slice pu LL.length cu).ownBlock = some j) (.grown hg fun j hj _ => hj) fun j hj => .inl (HOJ.out.lt j hj).1
      have hn3 : (Value.slice p' (k + 1) c').ownBlock ≠ some g := fun e => by have := (hown3.lt _ e).1; have := HBG.out.lt; omega
      have H3 := zH (And.intro hown3 (And.intro b4 (And.intro hX3 hn3)))
      clear hown2 hu b3 hX2 hown3 hg b4 hX3 hn3
      go_wp2
      go_roundw
      case rel => exact ⟨k + 1, _, by omega, by go_num, H3.out.2.1.setCell 2 _, ownL_flat _ ((ownL_flat (fun j => j = g) H3.out.1).wrote (.setCell _ _ _ _) rfl H3.out.2.2.2), H3.out.2.2.1.setCell ⟨g, 2, none⟩ _ rfl⟩
      case measure => simp [intOf]; omega
     ·have HN2 := zH (show LL = s.stages by rw [HLL.out, List.take_of_length_le (by omega)])
      have hog := HOJ.out
      rw [← HLL.out, HN2.out] at hog
      have hbg := HBJ.out
      rw [HN2.out] at hbg
      have hq0 := HQ0.out.keep (HX.out.keeps.mono fun j _ hj => .inr hj)
      have hq1 := HQ1.out.keep (HX.out.keeps.mono fun j _ hj => .inr hj)
      have hq2 := (ownL_flat (fun j => j < w.heap.size + 2 ∨ j = g) hog).sl (S := fun j => j < w.heap.size + 2 ∨ j = g) fun g' h1 h2 ha => by have := HBG.out.lt; have := HTC.out.size; have := HZ.out; omega
      have htw : StepX (fun x => x = g) W0 wr := HTC.out.trans HX.out
      have hbr := HBR.out.keep htw.keeps (by have := HG.out; show ¬ _ = g; omega)
      have hsw : Step w wr := StepX.fresh HS.out htw (fun j hj => by have := HG.out; omega)
      have HE := zH (And.intro hq0 (And.intro hq1 (And.intro hq2 (And.intro hbr hsw))))
      have m0 := hbg.cell 0
      have m1 := hbg.cell 1
      have m2 := hbg.cell 2
      have m3 := hbg.cell 3
      have t0 := hbr.cell 0
      have t1 := hbr.cell 1
      have t2 := hbr.cell 2
      have t3 := hbr.cell 3
      simp only [zD, zE] at m0 m1 m2 m3 t0 t1 t2 t3
      have tf0 := hbr.frozen 0
      have tf1 := hbr.frozen 1
      have tf2 := hbr.frozen 2
      have tf3 := hbr.frozen 3
      have yl := hbg.lt
      have yr := hbr.lt
      clear hog hbg hq0 hq1 hq2 htw hbr hsw HX HBJ HOJ HNE hcell
      go_wp2
      have b5 := set4 HE.out.2.2.2.1 (.slice r0 s.base.length n0) (.slice pq s.levels.length cq) (.slice pu s.stages.length cu) (.int .i64 s.openS)
      have hk5 := b5.2.keeps.mono (T := fun j => j < w.heap.size + 2 ∨ j = g) fun j _ hj => .inl (by omega)
      refine ret_struct (k := 4) rfl siGSite rfl b5.1 rfl rfl ⟨_, rfl, ⟨_, rfl, _, _, _, rfl, ?_, ?_, ?_⟩, StepX.fresh HE.out.2.2.2.2 b5.2 (fun j hj => by omega)⟩
      ·exact (HE.out.1.keep hk5).weak fun j _ hj => by unfold Old at hj; omega
      ·exact (HE.out.2.1.keep hk5).weak fun j _ hj => by unfold Old at hj; omega
      ·exact (HE.out.2.2.1.keep hk5).weak fun j _ hj => by unfold Old at hj; omega
  end Go.Proofs.Ytfhmdpicoccnfaa
