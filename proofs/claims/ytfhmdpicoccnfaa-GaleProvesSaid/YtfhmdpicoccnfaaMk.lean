/- Walks and plain laws, part k. -/
import Derived.Test.YtfhmdpicoccnfaaMc
import Derived.Test.YtfhmdpicoccnfaaMf
import Derived.Test.YtfhmdpicoccnfaaRows
import Derived.Deep.RegionWith
set_option maxHeartbeats 16000000
set_option maxRecDepth 100000
namespace Go.BT
theorem sizeR_no {h : Hall} {T : Nat} {cut : List Int} (hn : cutOk h T cut = false) : sizeR h T cut = -1 := by unfold sizeR; rw [hn]; rfl
theorem sizeR_yes {h : Hall} {T : Nat} {cut : List Int} (hn : cutOk h T cut = true) : sizeR h T cut = (netOf h T).size (cutF cut) := by unfold sizeR; rw [hn]; rfl
theorem cutOk_parts (h : Hall) (T : Nat) (cut : List Int) : cutOk h T cut = (decide (cut.length = h.people.length) && (decide (cut.getD 0 0 = (T : Int) + 1) && cut.all fun c => decide (0 ≤ c ∧ c ≤ (T : Int) + 1))) := by
 unfold cutOk; rw [Bool.and_assoc]
end Go.BT
namespace Go.Proofs.Ytfhmdpicoccnfaa
set_option linter.unusedSimpArgs false
set_option linter.unusedVariables false
open Go.RowKit Go.BT
theorem RSize_any (S : Nat → Prop) (h : Hall) (T : Nat) (cut : List Int) (v cv : Value) (w : World) (hv : AV S w v h) (hcv : SL S w cv cut) (O : HallOk h) (hT : T ≤ 60) :
  Calls Try.prog 40 #[v, .int .i64 T, cv] w fun e w' => e = .returned (.int .i64 (sizeR h T cut)) ∧ Step w w' := by
 obtain ⟨c0, c1, rfl, h0, h1⟩ := hv.hall
 obtain ⟨pp, kp, bp, op, rfl, _, hlp, hpp, hcp, _⟩ := h0.ints
 obtain ⟨pw, kw, bw, ow, rfl, _, hlw, hpw, hcw, _⟩ := h1.wys
 obtain ⟨pc, kc, bc, oc, rfl, _, hlc, hpc, hcc, _⟩ := hcv.ints
 obtain ⟨W0, hW0⟩ : ∃ W, W = w.alloc (.cells #[.slice pp h.people.length kp, .slice pw h.ways.length kw] 73) := ⟨_, rfl⟩
 have hb : Bx W0 w.heap.size [.slice pp h.people.length kp, .slice pw h.ways.length kw] 73 := by subst hW0; exact Bx.new w [_, _] _
 have hS : Step w W0 := by subst hW0; exact Step.alloc _ _
 have HS := zH hS
 have HW := zH hW0
 have HB := zH hb
 have HO := zH O
 have HPP := zH (And.intro hpp hcp)
 have HPW := zH (And.intro hpw hcw)
 have HPC := zH (And.intro hpc hcc)
 have HPT := zH (cutOk_parts h T cut)
 have e0 := hb.cell 0
 have e1 := hb.cell 1
 have bl := hb.lt
 simp only [zD, zE] at e0 e1
 have hwT : IntKind.i64.wrap ((T : Int) + 1) = (T : Int) + 1 := by rw [IntKind.wrap_i64]; omega
 clear hv h0 h1 hW0 hb hS hcv hpp hcp hpw hcw hpc hcc O
 go_enter Try.func40, Try.ntmps40
 go_upto_region 1 with (fail)
 rw [← HW.out]
 by_cases q2 : cut.length = h.people.length
 case neg =>
  have q2' : ((cut.length : Int) != (h.people.length : Int)) = true := by simpa [bne] using (by omega : ¬ (cut.length : Int) = h.people.length)
  have HV := zH (sizeR_no (by rw [HPT.out, decide_eq_false q2]; rfl))
  clear q2
  go_wp2
  go_ret
  exact ⟨by rw [HV.out]; rfl, HS.out⟩
 have q2' : ((cut.length : Int) != (h.people.length : Int)) = false := by simp [bne, q2]
 have hn2 := HO.out.n2
 have hcl : 0 < cut.length := by omega
 obtain rfl := HPC.out.1 hcl
 have k0 := HS.out.kc (HPC.out.2 0 hcl)
 rw [Nat.add_zero] at k0
 have hx : (0 : Int) ≤ 0 ∧ (0 : Int) < (cut.length : Int) := by omega
 obtain ⟨z0, hz0⟩ : ∃ z, z = cut[0] := ⟨_, rfl⟩
 have hzd : cut.getD 0 0 = z0 := by rw [hz0]; simp [List.getD_eq_getElem?_getD, hcl]
 rw [← hz0] at k0
 have HL := zH q2
 rw [decide_eq_true q2, hzd, Bool.true_and] at HPT
 clear q2 hz0
 by_cases q3 : z0 = (T : Int) + 1
 case neg =>
  have q3' : (z0 != (T : Int) + 1) = true := by simpa [bne] using q3
  have HV := zH (sizeR_no (by rw [HPT.out, decide_eq_false q3]; rfl))
  clear q3 hzd
  go_wp2
  go_ret
  exact ⟨by rw [HV.out]; rfl, HS.out⟩
 have q3' : (z0 != (T : Int) + 1) = false := by simp [bne, q3]
 rw [decide_eq_true q3, Bool.true_and] at HPT
 clear q3 hzd
 obtain ⟨κ, hκ⟩ : ∃ z, z = cutF cut := ⟨_, rfl⟩
 have HKF := zH (show ∀ s (hs : s < cut.length), κ s = cut[s].toNat from fun s hs => by rw [hκ]; simp [cutF, List.getD_eq_getElem?_getD, hs])
 have HYES := zH (show cutOk h T cut = true → sizeR h T cut = (netOf h T).size κ from fun hc => by rw [hκ]; exact sizeR_yes hc)
 have hn2' : 0 < h.people.length := by omega
 obtain rfl := HPP.out.1 hn2'
 clear hκ
 go_wp2
 clear k0 q2' q3' hx
 go_loopw [7, 8] (fun s7 s8 wr => ∃ k : Nat, k ≤ cut.length ∧ s8 = .int .i64 k ∧ s7 = .int .i64 ((netOf h T).cP κ k) ∧ (∀ s (hs : s < cut.length), s < k → 0 ≤ cut[s] ∧ cut[s] ≤ (T : Int) + 1) ∧ W0 = wr) (fun _ s8 _ => cut.length - (intOf s8).toNat)
 case atStart => exact ⟨0, Nat.zero_le _, rfl, rfl, (fun s _ hs => by omega), rfl⟩
 case round =>
  obtain ⟨k, hk, rfl, rfl, hall, rfl⟩ := hrel
  have HALL := zH hall
  clear hall
  have hlen := HL.out
  by_cases hlt : k < cut.length
  ·have c0 := HS.out.kc (HPC.out.2 k hlt)
   have p0 := HS.out.kc (HPP.out.2 k (by omega))
   have hps : (netOf h T).pe k = h.people[k]'(by omega) := by show h.people.getD k 0 = _; simp [List.getD_eq_getElem?_getD, show k < h.people.length by omega]
   rw [← hps] at p0
   obtain ⟨x, hxx⟩ : ∃ z, z = cut[k] := ⟨_, rfl⟩
   have hkx := HKF.out k hlt
   rw [← hxx] at c0 hkx
   have hix : (0 : Int) ≤ (k : Int) ∧ (k : Int) < (h.people.length : Int) := by omega
   have hix2 : (0 : Int) ≤ (k : Int) ∧ (k : Int) < (cut.length : Int) := by omega
   have hsc := (netOf h T).cP_succ κ k
   have hb1 := cP_bd (T := T) (κ := κ) HO.out (show k + 1 ≤ h.people.length by omega)
   have HX := zH hxx
   have HSC := zH hsc
   have HKX := zH hkx
   have HB1 := zH hb1
   clear hxx hps hlen hsc hkx hb1
   go_wp2_with fail
   refine (bigtopref01.In_any _ _ _ _).mono ?_
   rintro e wz ⟨rfl, rfl⟩
   cases q : withinB x 0 ((T : Int) + 1) with
   | false =>
    have HV := zH (sizeR_no (h := h) (T := T) (cut := cut) (by
     rw [HPT.out]
     cases qa : (cut.all fun c => decide (0 ≤ c ∧ c ≤ (T : Int) + 1)) with
     | false => rfl
     | true =>
      have h1 := List.all_eq_true.1 qa _ (List.getElem_mem hlt)
      rw [decide_eq_true_eq, ← HX.out] at h1
      simp [withinB, h1.1, h1.2] at q))
    clear q
    go_wp2
    go_ret
    exact ⟨by rw [HV.out]; rfl, HS.out⟩
   | true =>
    have hbx : 0 ≤ x ∧ x ≤ (T : Int) + 1 := by simpa [withinB] using q
    have HBX := zH hbx
    have HNX := zH (show ∀ s (hs : s < cut.length), s < k + 1 → 0 ≤ cut[s] ∧ cut[s] ≤ (T : Int) + 1 from fun s hs hsk => by
     by_cases e : s = k
     ·subst e; rw [← HX.out]; exact HBX.out
     ·exact HALL.out s hs (by omega))
    clear q
    by_cases hpos : 0 < x
    ·have hd : decide (0 < x) = true := decide_eq_true hpos
     have hkp : 0 < κ k := by have := HKX.out; omega
     have hwr : IntKind.i64.wrap ((netOf h T).cP κ k + (netOf h T).pe k) = (netOf h T).cP κ (k + 1) := by
      have h1 := HSC.out
      have h2 := HB1.out
      rw [if_pos hkp] at h1
      rw [IntKind.wrap_i64] <;> omega
     clear hkp hbx hpos
     go_wp2
     go_roundw
     case rel => exact ⟨k + 1, by omega, by go_num, rfl, HNX.out, trivial⟩
     case measure => simp [intOf]; omega
    ·have hd : decide (0 < x) = false := decide_eq_false hpos
     have hkp : ¬ 0 < κ k := by have := HKX.out; omega
     have HSE := zH (show (netOf h T).cP κ (k + 1) = (netOf h T).cP κ k by rw [HSC.out, if_neg hkp, Int.add_zero])
     clear hkp hbx hpos
     go_wp2
     go_roundw
     case rel => exact ⟨k + 1, by omega, by go_num, by rw [HSE.out], HNX.out, trivial⟩
     case measure => simp [intOf]; omega
  ·have hkz : cut.length = k := by omega
   subst hkz
   have HOK := zH (show cutOk h T cut = true by
    rw [HPT.out, List.all_eq_true]
    intro x hx
    obtain ⟨s, hs, rfl⟩ := List.getElem_of_mem hx
    rw [decide_eq_true_eq]
    exact HALL.out s hs hs)
   have HK := zH (show ∀ s (hs : s < cut.length), cut[s] = ((κ s : Nat) : Int) ∧ κ s ≤ T + 1 from fun s hs => by
    have h1 := HALL.out s hs hs
    have h2 := HKF.out s hs
    omega)
   have hwl := HO.out.w20
   clear hlen
   go_wp2
   go_loopw [7, 9] (fun s7 s9 wr => ∃ k : Nat, k ≤ h.ways.length ∧ s9 = .int .i64 k ∧ s7 = .int .i64 ((netOf h T).cP κ cut.length + (netOf h T).cS κ k) ∧ Step W0 wr) (fun _ s9 _ => h.ways.length - (intOf s9).toNat)
   case atStart => exact ⟨0, Nat.zero_le _, rfl, by simp [Net.cS, sumN], Step.refl _⟩
   case round =>
    obtain ⟨k, hk, rfl, rfl, hS2⟩ := hrel
    have HS2 := zH hS2
    have e1 := hS2.kc e1
    clear hS2
    by_cases hlt : k < h.ways.length
    ·obtain rfl := HPW.out.1 (by omega)
     obtain ⟨y0, y1, y2, y3⟩ := HPW.out.2 k hlt
     obtain ⟨wa, wb, wc, wd⟩ := way_conds HO.out T hlt
     have hwy := HO.out.way k hlt
     rw [← wa] at y0 hwy
     rw [← wb] at y1 hwy
     rw [← wd] at y2 hwy
     rw [← wc] at y3 hwy
     obtain ⟨U, hU⟩ : ∃ z, z = (netOf h T).u k := ⟨_, rfl⟩
     obtain ⟨V, hV⟩ : ∃ z, z = (netOf h T).v k := ⟨_, rfl⟩
     obtain ⟨D, hD⟩ : ∃ z, z = (netOf h T).d k := ⟨_, rfl⟩
     obtain ⟨C, hC⟩ : ∃ z, z = (netOf h T).c k := ⟨_, rfl⟩
     rw [← hU] at y0 hwy
     rw [← hV] at y1 hwy
     rw [← hC] at y2 hwy
     rw [← hD] at y3 hwy
     have hst := HS.out.trans HS2.out
     have y0 := hst.kc y0
     have y1 := hst.kc y1
     have y2 := hst.kc y2
     have y3 := hst.kc y3
     have hUn : U < cut.length := by have := HL.out; omega
     have hVn : V < cut.length := by have := HL.out; omega
     have hD1 : 1 ≤ D ∧ D ≤ 15 := by omega
     have hC1 : 0 ≤ C ∧ C ≤ 1000 := by omega
     have hix : (0 : Int) ≤ (k : Int) ∧ (k : Int) < (h.ways.length : Int) := by omega
     have HU := zH (And.intro hU (And.intro hV (And.intro hD hC)))
     clear wa wb wc wd hwy hU hV hD hC hst
     go_upto_region 15 with (fail)
     clear y0 y1 y2 y3
     obtain ⟨W7, hW7⟩ : ∃ z, z = wr.alloc (.cells #[.int .i64 U, .int .i64 V, .int .i64 C, .int .i64 D] 107) := ⟨_, rfl⟩
     obtain ⟨g7, hg7⟩ : ∃ z, z = wr.heap.size := ⟨_, rfl⟩
     rw [← hW7, ← hg7]
     have hb7 : Bx W7 g7 [.int .i64 U, .int .i64 V, .int .i64 C, .int .i64 D] 107 := by subst hW7 hg7; exact Bx.new _ [_, _, _, _] _
     have hS7 : Step W0 W7 := by subst hW7; exact HS2.out.trans (Step.alloc _ _)
     obtain ⟨q0, q1, q2, q3⟩ := cellsW hb7
     have hst := HS.out.trans hS7
     have cu := hst.kc (HPC.out.2 U hUn)
     have cv := hst.kc (HPC.out.2 V hVn)
     have hku := HK.out U hUn
     have hkv := HK.out V hVn
     rw [hku.1] at cu
     rw [hkv.1] at cv
     have hix2 : (0 : Int) ≤ (U : Int) ∧ (U : Int) < (cut.length : Int) := by omega
     have hix3 : (0 : Int) ≤ (V : Int) ∧ (V : Int) < (cut.length : Int) := by omega
     have HS7 := zH hS7
     have HKU := zH (And.intro hku.2 hkv.2)
     obtain ⟨A, hA⟩ : ∃ z, z = (netOf h T).cP κ cut.length + (netOf h T).cS κ k := ⟨_, rfl⟩
     have hAb : 0 ≤ A ∧ A ≤ 1270000 := by
      have h1 := cP_bd (T := T) (κ := κ) HO.out (show cut.length ≤ h.people.length by have := HL.out; omega)
      have h2 := cS_bd (κ := κ) HO.out (show T ≤ 61 by omega) hk
      omega
     have HA := zH hA
     rw [← hA]
     clear hb7 hS7 hW7 hg7 hst hku hkv hA e1
     go_wp2
     go_loopw [7, 11] (fun s7 s11 wr3 => ∃ t : Nat, t ≤ T + 1 ∧ s11 = .int .i64 t ∧ s7 = .int .i64 (A + (netOf h T).cW κ k t) ∧ Step W7 wr3) (fun _ s11 _ => T + 2 - (intOf s11).toNat)
     case atStart => exact ⟨0, by omega, rfl, by simp [Net.cW, sumN], Step.refl _⟩
     case round =>
      obtain ⟨t, htT, rfl, rfl, hS3⟩ := hrel
      have q0 := hS3.kc q0
      have q1 := hS3.kc q1
      have q2 := hS3.kc q2
      have q3 := hS3.kc q3
      have cu := hS3.kc cu
      have cv := hS3.kc cv
      have HS3 := zH hS3
      clear hS3
      have hw1 : IntKind.i64.wrap ((t : Int) + (D : Int)) = (t : Int) + (D : Int) := by rw [IntKind.wrap_i64]; omega
      have hw3 : IntKind.i64.wrap ((t : Int) + 1) = ((t + 1 : Nat) : Int) := by rw [IntKind.wrap_i64] <;> omega
      by_cases q : t + D ≤ T
      ·have d0 : decide ((t : Int) + (D : Int) ≤ (T : Int)) = true := by simp; omega
       have d0' : decide (t + D ≤ T) = true := decide_eq_true q
       have hcs := (netOf h T).cW_succ κ k t
       rw [← HU.out.1, ← HU.out.2.1, ← HU.out.2.2.1, ← HU.out.2.2.2] at hcs
       have hb := cW_bd (T := T) (κ := κ) HO.out hlt (t + 1)
       have hb0 := cW_bd (T := T) (κ := κ) HO.out hlt t
       by_cases q5 : κ U ≤ t
       ·have d1 : decide (((κ U : Nat) : Int) ≤ (t : Int)) = true := by simp; omega
        have d1' : decide (κ U ≤ t) = true := decide_eq_true q5
        by_cases q6 : t + D < κ V
        ·have d2 : decide ((t : Int) + (D : Int) < ((κ V : Nat) : Int)) = true := by simp; omega
         rw [if_pos ⟨q5, q6⟩] at hcs
         have hw2 : IntKind.i64.wrap (A + (netOf h T).cW κ k t + C) = A + (netOf h T).cW κ k (t + 1) := by rw [IntKind.wrap_i64] <;> omega
         clear hcs hb hb0
         go_upto_region 18 with (fail)
         go_quiet (fail)
         go_wp2
         go_roundw
         case rel => exact ⟨t + 1, by omega, by go_num, by go_num, (by first | exact HS3.out | exact HS3.out.trans (Step.drew _) | exact HS3.out.trans (Step.drewN _ _))⟩
         case measure => simp [intOf]; omega
        ·have d2 : decide ((t : Int) + (D : Int) < ((κ V : Nat) : Int)) = false := by simp; omega
         rw [if_neg (fun e => q6 e.2), Int.add_zero] at hcs
         have HCS := zH hcs
         clear hcs hb hb0
         go_upto_region 18 with (fail)
         go_quiet (fail)
         go_wp2
         go_roundw
         case rel => exact ⟨t + 1, by omega, by go_num, by rw [HCS.out], (by first | exact HS3.out | exact HS3.out.trans (Step.drew _) | exact HS3.out.trans (Step.drewN _ _))⟩
         case measure => simp [intOf]; omega
       ·have d1 : decide (((κ U : Nat) : Int) ≤ (t : Int)) = false := by simp; omega
        have d1' : decide (κ U ≤ t) = false := decide_eq_false q5
        rw [if_neg (fun e => q5 e.1), Int.add_zero] at hcs
        have HCS := zH hcs
        clear hcs hb hb0
        go_upto_region 18 with (fail)
        go_quiet (fail)
        go_wp2
        go_roundw
        case rel => exact ⟨t + 1, by omega, by go_num, by rw [HCS.out], (by first | exact HS3.out | exact HS3.out.trans (Step.drew _) | exact HS3.out.trans (Step.drewN _ _))⟩
        case measure => simp [intOf]; omega
      ·have d0 : decide ((t : Int) + (D : Int) ≤ (T : Int)) = false := by simp; omega
       have d0' : decide (t + D ≤ T) = false := decide_eq_false q
       go_wp2
       go_roundw
       case rel =>
        refine ⟨k + 1, by omega, by go_num, ?_, HS7.out.trans HS3.out⟩
        rw [Net.cS_succ, ← (netOf h T).cW_end κ k (by rw [← HU.out.2.2.1]; exact hD1.1) (by rw [← HU.out.2.1]; exact HKU.out.2) (t := t) (fun e => q (by rw [← HU.out.2.2.1] at e; exact e.1)), HA.out, Int.add_assoc]
       case measure => simp [intOf]; omega
    ·have hkz : h.ways.length = k := by omega
     subst hkz
     have HSZ := zH (show sizeR h T cut = (netOf h T).cP κ cut.length + (netOf h T).cS κ h.ways.length by
      rw [HYES.out HOK.out, Net.size_parts, HL.out]; rfl)
     go_wp2
     go_ret
     exact ⟨by rw [HSZ.out]; rfl, HS.out.trans HS2.out⟩
end Go.Proofs.Ytfhmdpicoccnfaa
namespace Go.BT
section
variable {h : Hall} {T : Nat}
end
end Go.BT
namespace Go.Proofs.Ytfhmdpicoccnfaa
set_option linter.unusedSimpArgs false
set_option linter.unusedVariables false
open Go.RowKit Go.BT
end Go.Proofs.Ytfhmdpicoccnfaa
