/- Walks and plain laws, part k. -/
import Derived.Test.YtfhmdpicoccnfaaMc
import Derived.Test.YtfhmdpicoccnfaaMf
import Derived.Test.YtfhmdpicoccnfaaRows
import Derived.Deep.RegionWith
set_option maxHeartbeats 16000000
set_option maxRecDepth 100000
namespace Go.BT
theorem sizeR_no {h : Hall} {T : Nat} {cut : List Int} (hn : cutOk h T cut = false) : sizeR h T cut = -1 := by unfold sizeR; rw [hn]; rfl
theorem sizeR_yes {h : Hall} {T : Nat} {cut : List Int} (hn : cutOk h T cut = true) : sizeR h T cut = (netOf h T).size (cutF cut) := by unfold sizeR; rw [hn]; rfl
theorem cutOk_parts (h : Hall) (T : Nat) (cut : List Int) : cutOk h T cut = (decide (cut.length = h.people.length) && (decide (cut.getD 0 0 = (T : Int) + 1) && cut.all fun c => decide (0 ≤ c ∧ c ≤ (T : Int) + 1))) := by
 unfold cutOk; rw [Bool.and_assoc]
end Go.BT
namespace Go.Proofs.Ytfhmdpicoccnfaa
set_option linter.unusedSimpArgs false
set_option linter.unusedVariables false
open Go.RowKit Go.BT
theorem RSize_any (S : Nat → Prop) (h : Hall) (T : Nat) (cut : List Int) (v cv : Value) (w : World) (hv : AV S w v h) (hcv : SL S w cv cut) (O : HallOk h) (hT : T ≤ 60) :
  Calls Try.prog 40 #[v, .int .i64 T, cv] w fun e w' => e = .returned (.int .i64 (sizeR h T cut)) ∧ Step w w' := by
 obtain ⟨c0, c1, rfl, h0, h1⟩ := hv.hall
 obtain ⟨pp, kp, bp, op, rfl, _, hlp, hpp, hcp, _⟩ := h0.ints
 obtain ⟨pw, kw, bw, ow, rfl, _, hlw, hpw, hcw, _⟩ := h1.wys
 obtain ⟨pc, kc, bc, oc, rfl, _, hlc, hpc, hcc, _⟩ := hcv.ints
 obtain ⟨W0, hW0⟩ : ∃ W, W = w.alloc (.cells #[.slice pp h.people.length kp, .slice pw h.ways.length kw] 73) := ⟨_, rfl⟩
 have hb : Bx W0 w.heap.size [.slice pp h.people.length kp, .slice pw h.ways.length kw] 73 := by subst hW0; exact Bx.new w [_, _] _
 have hS : Step w W0 := by subst hW0; exact Step.alloc _ _
 have HS := zH hS
 have HW := zH hW0
 have HB := zH hb
 have HO := zH O
 have HPP := zH (And.intro hpp hcp)
 have HPW := zH (And.intro hpw hcw)
 have HPC := zH (And.intro hpc hcc)
 have HPT := zH (cutOk_parts h T cut)
 have e0 := hb.cell 0
 have e1 := hb.cell 1
 have bl := hb.lt
 simp only [zD, zE] at e0 e1
 have hwT : IntKind.i64.wrap ((T : Int) + 1) = (T : Int) + 1 := by rw [IntKind.wrap_i64]; omega
 clear hv h0 h1 hW0 hb hS hcv hpp hcp hpw hcw hpc hcc O
 go_enter Try.func40, Try.ntmps40
 go_upto_region 1 with (fail)
 rw [← HW.out]
 by_cases q2 : cut.length = h.people.length
 case neg =>
  have q2' : ((cut.length : Int) != (h.people.length : Int)) = true := by simpa [bne] using (by omega : ¬ (cut.length : Int) = h.people.length)
  have HV := zH (sizeR_no (by rw [HPT.out, decide_eq_false q2]; rfl))
  clear q2
  go_wp2
  go_ret
  exact ⟨by rw [HV.out]; rfl, HS.out⟩
 have q2' : ((cut.length : Int) != (h.people.length : Int)) = false := by simp [bne, q2]
 have hn2 := HO.out.n2
 have hcl : 0 < cut.length := by omega
 obtain rfl := HPC.out.1 hcl
 have k0 := HS.out.kc (HPC.out.2 0 hcl)
 rw [Nat.add_zero] at k0
 have hx : (0 : Int) ≤ 0 ∧ (0 : Int) < (cut.length : Int) := by omega
 obtain ⟨z0, hz0⟩ : ∃ z, z = cut[0] := ⟨_, rfl⟩
 have hzd : cut.getD 0 0 = z0 := by rw [hz0]; simp [List.getD_eq_getElem?_getD, hcl]
 rw [← hz0] at k0
 have HL := zH q2
 rw [decide_eq_true q2, hzd, Bool.true_and] at HPT
 clear q2 hz0
 by_cases q3 : z0 = (T : Int) + 1
 case neg =>
  have q3' : (z0 != (T : Int) + 1) = true := by simpa [bne] using q3
  have HV := zH (sizeR_no (by rw [HPT.out, decide_eq_false q3]; rfl))
  clear q3 hzd
  go_wp2
  go_ret
  exact ⟨by rw [HV.out]; rfl, HS.out⟩
 have q3' : (z0 != (T : Int) + 1) = false := by simp [bne, q3]
 rw [decide_eq_true q3, Bool.true_and] at HPT
 clear q3 hzd
 obtain ⟨κ, hκ⟩ : ∃ z, z = cutF cut := ⟨_, rfl⟩
 have HKF := zH (show ∀ s (hs : s < cut.length), κ s = cut[s].toNat from fun s hs => by rw [hκ]; simp [cutF, List.getD_eq_getElem?_getD, hs])
 have HYES := zH (show cutOk h T cut = true → sizeR h T cut = (netOf h T).size κ from fun hc => by rw [hκ]; exact sizeR_yes hc)
 have hn2' : 0 < h.people.length := by omega
 obtain rfl := HPP.out.1 hn2'
 clear hκ
 go_wp2
 clear k0 q2' q3' hx
 go_loopw [7, 8] (fun s7 s8 wr => ∃ k : Nat, k ≤ cut.length ∧ s8 = .int .i64 k ∧ s7 = .int .i64 ((netOf h T).cP κ k) ∧ (∀ s (hs : s < cut.length), s < k → 0 ≤ cut[s] ∧ cut[s] ≤ (T : Int) + 1) ∧ W0 = wr) (fun _ s8 _ => cut.length - (intOf s8).toNat)
 case atStart => exact ⟨0, Nat.zero_le _, rfl, rfl, (fun s _ hs => by omega), rfl⟩
 case round =>
  obtain ⟨k, hk, rfl, rfl, hall, rfl⟩ := hrel
  have HALL := zH hall
  clear hall
  have hlen := HL.out
  by_cases hlt : k < cut.length
  ·have c0 := HS.out.kc (HPC.out.2 k hlt)
   have p0 := HS.out.kc (HPP.out.2 k (by omega))
   have hps : (netOf h T).pe k = h.people[k]'(by omega) := by show h.people.getD k 0 = _; simp [List.getD_eq_getElem?_getD, show k < h.people.length by omega]
   rw [← hps] at p0
   obtain ⟨x, hxx⟩ : ∃ z, z = cut[k] := ⟨_, rfl⟩
   have hkx := HKF.out k hlt
   rw [← hxx] at c0 hkx
   have hix : (0 : Int) ≤ (k : Int) ∧ (k : Int) < (h.people.length : Int) := by omega
   have hix2 : (0 : Int) ≤ (k : Int) ∧ (k : Int) < (cut.length : Int) := by omega
   have hsc := (netOf h T).cP_succ κ k
   have hb1 := cP_bd (T := T) (κ := κ) HO.out (show k + 1 ≤ h.people.length by omega)
   have HX := zH hxx
   have HSC := zH hsc
   have HKX := zH hkx
   have HB1 := zH hb1
   clear hxx hps hlen hsc hkx hb1
   go_wp2_with fail
   refine (bigtopref01.In_any _ _ _ _).mono ?_
   rintro e wz ⟨rfl, rfl⟩
   cases q : withinB x 0 ((T : Int) + 1) with
   | false =>
    have HV := zH (sizeR_no (h := h) (T := T) (cut := cut) (by
     rw [HPT.out]
     cases qa : (cut.all fun c => decide (0 ≤ c ∧ c ≤ (T : Int) + 1)) with
     | false => rfl
     | true =>
      have h1 := List.all_eq_true.1 qa _ (List.getElem_mem hlt)
      rw [decide_eq_true_eq, ← HX.out] at h1
      simp [withinB, h1.1, h1.2] at q))
    clear q
    go_wp2
    go_ret
    exact ⟨by rw [HV.out]; rfl, HS.out⟩
   | true =>
    have hbx : 0 ≤ x ∧ x ≤ (T : Int) + 1 := by simpa [withinB] using q
    have HBX := zH hbx
    have HNX := zH (show ∀ s (hs : s < cut.length), s < k + 1 → 0 ≤ cut[s] ∧ cut[s] ≤ (T : Int) + 1 from fun s hs hsk => by
     by_cases e : s = k
     ·subst e; rw [← HX.out]; exact HBX.out
     ·exact HALL.out s hs (by omega))
    clear q
    by_cases hpos : 0 < x
    ·have hd : decide (0 < x) = true := decide_eq_true hpos
     have hkp : 0 < κ k := by have := HKX.out; omega
     have hwr : IntKind.i64.wrap ((netOf h T).cP κ k + (netOf h T).pe k) = (netOf h T).cP κ (k + 1) := by
      have h1 := HSC.out
      have h2 := HB1.out
      rw [if_pos hkp] at h1
      rw [IntKind.wrap_i64] <;> omega
     clear hkp hbx hpos
     go_wp2
     go_roundw
     case rel => exact ⟨k + 1, by omega, by go_num, rfl, HNX.out, trivial⟩
     case measure => simp [intOf]; omega
    ·have hd : decide (0 < x) = false := decide_eq_false hpos
     have hkp : ¬ 0 < κ k := by have := HKX.out; omega
     have HSE := zH (show (netOf h T).cP κ (k + 1) = (netOf h T).cP κ k by rw [HSC.out, if_neg hkp, Int.add_zero])
     clear hkp hbx hpos
     go_wp2
     go_roundw
     case rel => exact ⟨k + 1, by omega, by go_num, by rw [HSE.out], HNX.out, trivial⟩
     case measure => simp [intOf]; omega
  ·have hkz : cut.length = k := by omega
   subst hkz
   have HOK := zH (show cutOk h T cut = true by
    rw [HPT.out, List.all_eq_true]
    intro x hx
    obtain ⟨s, hs, rfl⟩ := List.getElem_of_mem hx
    rw [decide_eq_true_eq]
    exact HALL.out s hs hs)
   have HK := zH (show ∀ s (hs : s < cut.length), cut[s] = ((κ s : Nat) : Int) ∧ κ s ≤ T + 1 from fun s hs => by
    have h1 := HALL.out s hs hs
    have h2 := HKF.out s hs
    omega)
   have hwl := HO.out.w20
   clear hlen
   go_wp2
   go_loopw [7, 9] (fun s7 s9 wr => ∃ k : Nat, k ≤ h.ways.length ∧ s9 = .int .i64 k ∧ s7 = .int .i64 ((netOf h T).cP κ cut.length + (netOf h T).cS κ k) ∧ Step W0 wr) (fun _ s9 _ => h.ways.length - (intOf s9).toNat)
   case atStart => exact ⟨0, Nat.zero_le _, rfl, by simp [Net.cS, sumN], Step.refl _⟩
   case round =>
    obtain ⟨k, hk, rfl, rfl, hS2⟩ := hrel
    have HS2 := zH hS2
    have e1 := hS2.kc e1
    clear hS2
    by_cases hlt : k < h.ways.length
    ·obtain rfl := HPW.out.1 (by omega)
     obtain ⟨y0, y1, y2, y3⟩ := HPW.out.2 k hlt
     obtain ⟨wa, wb, wc, wd⟩ := way_conds HO.out T hlt
     have hwy := HO.out.way k hlt
     rw [← wa] at y0 hwy
     rw [← wb] at y1 hwy
     rw [← wd] at y2 hwy
     rw [← wc] at y3 hwy
     obtain ⟨U, hU⟩ : ∃ z, z = (netOf h T).u k := ⟨_, rfl⟩
     obtain ⟨V, hV⟩ : ∃ z, z = (netOf h T).v k := ⟨_, rfl⟩
     obtain ⟨D, hD⟩ : ∃ z, z = (netOf h T).d k := ⟨_, rfl⟩
     obtain ⟨C, hC⟩ : ∃ z, z = (netOf h T).c k := ⟨_, rfl⟩
     rw [← hU] at y0 hwy
     rw [← hV] at y1 hwy
     rw [← hC] at y2 hwy
     rw [← hD] at y3 hwy
     have hst := HS.out.trans HS2.out
     have y0 := hst.kc y0
     have y1 := hst.kc y1
     have y2 := hst.kc y2
     have y3 := hst.kc y3
     have hUn : U < cut.length := by have := HL.out; omega
     have hVn : V < cut.length := by have := HL.out; omega
     have hD1 : 1 ≤ D ∧ D ≤ 15 := by omega
     have hC1 : 0 ≤ C ∧ C ≤ 1000 := by omega
     have hix : (0 : Int) ≤ (k : Int) ∧ (k : Int) < (h.ways.length : Int) := by omega
     have HU := zH (And.intro hU (And.intro hV (And.intro hD hC)))
     clear wa wb wc wd hwy hU hV hD hC hst
     go_upto_region 15 with (fail)
     clear y0 y1 y2 y3
     obtain ⟨W7, hW7⟩ : ∃ z, z = wr.alloc (.cells #[.int .i64 U, .int .i64 V, .int .i64 C, .int .i64 D] 107) := ⟨_, rfl⟩
     obtain ⟨g7, hg7⟩ : ∃ z, z = wr.heap.size := ⟨_, rfl⟩
     rw [← hW7, ← hg7]
     have hb7 : Bx W7 g7 [.int .i64 U, .int .i64 V, .int .i64 C, .int .i64 D] 107 := by subst hW7 hg7; exact Bx.new _ [_, _, _, _] _
     have hS7 : Step W0 W7 := by subst hW7; exact HS2.out.trans (Step.alloc _ _)
     obtain ⟨q0, q1, q2, q3⟩ := cellsW hb7
     have hst := HS.out.trans hS7
     have cu := hst.kc (HPC.out.2 U hUn)
     have cv := hst.kc (HPC.out.2 V hVn)
     have hku := HK.out U hUn
     have hkv := HK.out V hVn
     rw [hku.1] at cu
     rw [hkv.1] at cv
     have hix2 : (0 : Int) ≤ (U : Int) ∧ (U : Int) < (cut.length : Int) := by omega
     have hix3 : (0 : Int) ≤ (V : Int) ∧ (V : Int) < (cut.length : Int) := by omega
     have HS7 := zH hS7
     have HKU := zH (And.intro hku.2 hkv.2)
     obtain ⟨A, hA⟩ : ∃ z, z = (netOf h T).cP κ cut.length + (netOf h T).cS κ k := ⟨_, rfl⟩
     have hAb : 0 ≤ A ∧ A ≤ 1270000 := by
      have h1 := cP_bd (T := T) (κ := κ) HO.out (show cut.length ≤ h.people.length by have := HL.out; omega)
      have h2 := cS_bd (κ := κ) HO.out (show T ≤ 61 by omega) hk
      omega
     have HA := zH hA
     rw [← hA]
     clear hb7 hS7 hW7 hg7 hst hku hkv hA e1
     go_wp2
     go_loopw [7, 11] (fun s7 s11 wr3 => ∃ t : Nat, t ≤ T + 1 ∧ s11 = .int .i64 t ∧ s7 = .int .i64 (A + (netOf h T).cW κ k t) ∧ Step W7 wr3) (fun _ s11 _ => T + 2 - (intOf s11).toNat)
     case atStart => exact ⟨0, by omega, rfl, by simp [Net.cW, sumN], Step.refl _⟩
     case round =>
      obtain ⟨t, htT, rfl, rfl, hS3⟩ := hrel
      have q0 := hS3.kc q0
      have q1 := hS3.kc q1
      have q2 := hS3.kc q2
      have q3 := hS3.kc q3
      have cu := hS3.kc cu
      have cv := hS3.kc cv
      have HS3 := zH hS3
      clear hS3
      have hw1 : IntKind.i64.wrap ((t : Int) + (D : Int)) = (t : Int) + (D : Int) := by rw [IntKind.wrap_i64]; omega
      have hw3 : IntKind.i64.wrap ((t : Int) + 1) = ((t + 1 : Nat) : Int) := by rw [IntKind.wrap_i64] <;> omega
      by_cases q : t + D ≤ T
      ·have d0 : decide ((t : Int) + (D : Int) ≤ (T : Int)) = true := by simp; omega
       have d0' : decide (t + D ≤ T) = true := decide_eq_true q
       have hcs := (netOf h T).cW_succ κ k t
       rw [← HU.out.1, ← HU.out.2.1, ← HU.out.2.2.1, ← HU.out.2.2.2] at hcs
       have hb := cW_bd (T := T) (κ := κ) HO.out hlt (t + 1)
       have hb0 := cW_bd (T := T) (κ := κ) HO.out hlt t
       by_cases q5 : κ U ≤ t
       ·have d1 : decide (((κ U : Nat) : Int) ≤ (t : Int)) = true := by simp; omega
        have d1' : decide (κ U ≤ t) = true := decide_eq_true q5
        by_cases q6 : t + D < κ V
        ·have d2 : decide ((t : Int) + (D : Int) < ((κ V : Nat) : Int)) = true := by simp; omega
         rw [if_pos ⟨q5, q6⟩] at hcs
         have hw2 : IntKind.i64.wrap (A + (netOf h T).cW κ k t + C) = A + (netOf h T).cW κ k (t + 1) := by rw [IntKind.wrap_i64] <;> omega
         clear hcs hb hb0
         go_upto_region 18 with (fail)
         go_quiet (fail)
         go_wp2
         go_roundw
         case rel => exact ⟨t + 1, by omega, by go_num, by go_num, (by first | exact HS3.out | exact HS3.out.trans (Step.drew _) | exact HS3.out.trans (Step.drewN _ _))⟩
         case measure => simp [intOf]; omega
        ·have d2 : decide ((t : Int) + (D : Int) < ((κ V : Nat) : Int)) = false := by simp; omega
         rw [if_neg (fun e => q6 e.2), Int.add_zero] at hcs
         have HCS := zH hcs
         clear hcs hb hb0
         go_upto_region 18 with (fail)
         go_quiet (fail)
         go_wp2
         go_roundw
         case rel => exact ⟨t + 1, by omega, by go_num, by rw [HCS.out], (by first | exact HS3.out | exact HS3.out.trans (Step.drew _) | exact HS3.out.trans (Step.drewN _ _))⟩
         case measure => simp [intOf]; omega
       ·have d1 : decide (((κ U : Nat) : Int) ≤ (t : Int)) = false := by simp; omega
        have d1' : decide (κ U ≤ t) = false := decide_eq_false q5
        rw [if_neg (fun e => q5 e.1), Int.add_zero] at hcs
        have HCS := zH hcs
        clear hcs hb hb0
        go_upto_region 18 with (fail)
        go_quiet (fail)
        go_wp2
        go_roundw
        case rel => exact ⟨t + 1, by omega, by go_num, by rw [HCS.out], (by first | exact HS3.out | exact HS3.out.trans (Step.drew _) | exact HS3.out.trans (Step.drewN _ _))⟩
        case measure => simp [intOf]; omega
      ·have d0 : decide ((t : Int) + (D : Int) ≤ (T : Int)) = false := by simp; omega
       have d0' : decide (t + D ≤ T) = false := decide_eq_false q
       go_wp2
       go_roundw
       case rel =>
        refine ⟨k + 1, by omega, by go_num, ?_, HS7.out.trans HS3.out⟩
        rw [Net.cS_succ, ← (netOf h T).cW_end κ k (by rw [← HU.out.2.2.1]; exact hD1.1) (by rw [← HU.out.2.1]; exact HKU.out.2) (t := t) (fun e => q (by rw [← HU.out.2.2.1] at e; exact e.1)), HA.out, Int.add_assoc]
       case measure => simp [intOf]; omega
    ·have hkz : h.ways.length = k := by omega
     subst hkz
     have HSZ := zH (show sizeR h T cut = (netOf h T).cP κ cut.length + (netOf h T).cS κ h.ways.length by
      rw [HYES.out HOK.out, Net.size_parts, HL.out]; rfl)
     go_wp2
     go_ret
     exact ⟨by rw [HSZ.out]; rfl, HS.out.trans HS2.out⟩
end Go.Proofs.Ytfhmdpicoccnfaa
namespace Go.BT
section
variable {h : Hall} {T : Nat}
theorem take_eq_get {a b : List Int} {n j : Nat} (h : a.take n = b.take n) (hj : j < n) : a[j]? = b[j]? := by
 have := congrArg (fun l => l[j]?) h
 simp only [List.getElem?_take] at this
 rwa [if_pos hj, if_pos hj] at this
theorem take_of_get {a b : List Int} {n : Nat} (h : ∀ j, j < n → a[j]? = b[j]?) : a.take n = b.take n := by
 refine List.ext_getElem? fun j => ?_
 rw [List.getElem?_take, List.getElem?_take]
 split
 ·rename_i q; exact h j q
 ·rfl
theorem leastR_congr : ∀ (m : Nat) (a b : List Int), a.length = b.length → m ≤ a.length → a.take (a.length - m) = b.take (a.length - m) → leastR h T m a = leastR h T m b
 | 0, a, b, hl, _, ht => by
  rw [Nat.sub_zero, List.take_length, hl, List.take_length] at ht
  rw [ht]
 | m + 1, a, b, hl, hm, ht => by
  show List.foldl _ _ _ = List.foldl _ _ _
  congr 1
  funext x t
  congr 1
  refine leastR_congr m _ _ (by simp [hl]) (by simp; omega) ?_
  simp only [List.length_set]
  refine take_of_get fun j hj => ?_
  rw [← hl]
  by_cases e : a.length - (m + 1) = j
  ·subst e
   rw [List.getElem?_set, List.getElem?_set, if_pos rfl, if_pos rfl, if_pos (by omega), if_pos (by omega)]
  ·rw [List.getElem?_set, List.getElem?_set, if_neg e, if_neg e]
   exact take_eq_get ht (by omega)
theorem leastR_next (m t : Nat) (cut : List Int) : (List.range (t + 1)).foldl (fun (b : Int) (t : Nat) => min b (leastR h T m (cut.set (cut.length - (m + 1)) (t : Int)))) (allH h) = min ((List.range t).foldl (fun (b : Int) (t : Nat) => min b (leastR h T m (cut.set (cut.length - (m + 1)) (t : Int)))) (allH h)) (leastR h T m (cut.set (cut.length - (m + 1)) (t : Int))) := by
 rw [List.range_succ, List.foldl_append]; rfl
end
end Go.BT
namespace Go.Proofs.Ytfhmdpicoccnfaa
set_option linter.unusedSimpArgs false
set_option linter.unusedVariables false
open Go.RowKit Go.BT
theorem Rleast_any (h : Hall) (T : Nat) (O : HallOk h) (hT : T ≤ 60) : ∀ (m : Nat) (cut : List Int) (v : Value) (g c : Nat) (w : World), m ≤ cut.length → cut.length = h.people.length → cut.length ≤ c → AV (fun j => j = g) w v h → Bx w g (cut.map (.int .i64)) 3 →
  Calls Try.prog 76 #[v, .int .i64 T, .slice (some ⟨g, 0, none⟩) cut.length c, .int .i64 ((cut.length - m : Nat) : Int)] w fun e w' => e = .returned (.int .i64 (leastR h T m cut)) ∧ StepX (fun j => j = g) w w' ∧ ∃ cut' : List Int, cut'.length = cut.length ∧ cut'.take (cut.length - m) = cut.take (cut.length - m) ∧ Bx w' g (cut'.map (.int .i64)) 3 := by
 intro m
 induction m with
 | zero =>
  intro cut v g c w hm hl hc hv hbg
  obtain ⟨c0, c1, rfl, h0, h1⟩ := hv.hall
  obtain ⟨p0, k0, rfl⟩ := h0.form
  obtain ⟨p1, k1, rfl⟩ := h1.form
  obtain ⟨W0, hW0⟩ : ∃ W, W = w.alloc (.cells #[.slice p0 h.people.length k0, .slice p1 h.ways.length k1] 73) := ⟨_, rfl⟩
  have hb : Bx W0 w.heap.size [.slice p0 h.people.length k0, .slice p1 h.ways.length k1] 73 := by subst hW0; exact Bx.new w [_, _] _
  have hS : Step w W0 := by subst hW0; exact Step.alloc _ _
  have HAV := zH (show AV (fun j => j = g) W0 (.agg #[.slice p0 h.people.length k0, .slice p1 h.ways.length k1]) h from ⟨_, rfl, _, _, rfl, h0.keep (.of_step hS), h1.keep (.of_step hS)⟩)
  have HG := zH (hbg.step hS)
  have HS := zH hS
  have HW := zH hW0
  have HO := zH O
  have hl10 := O.n10
  have e0 := hb.cell 0
  have e1 := hb.cell 1
  simp only [zD, zE] at e0 e1
  have hz : ((cut.length - 0 : Nat) : Int) = (cut.length : Int) := by omega
  rw [hz]
  have HL := zH hl
  have HC := zH (And.intro hc (show cut.length ≤ 9223372036854775807 by omega))
  clear hv h0 h1 hW0 hb hS hbg O hz hl hm hc hl10
  go_enter Try.func76, Try.ntmps76
  go_upto_region 1 with (fail)
  rw [← HW.out]
  have HCV := zH (show SL (fun _ => False) W0 (.slice (some ⟨g, 0, none⟩) cut.length c) cut from (SLT.bx_ints (S := fun _ => False) (l := cut) HG.out id c HC.out.1 HC.out.2).1)
  go_wp2_with fail
  refine (RSize_any (fun _ => False) h T cut _ _ W0 (av0 HAV.out) HCV.out HO.out hT).mono ?_
  rintro e wn ⟨rfl, hSn⟩
  have HSN := zH hSn
  clear hSn
  go_wp2
  go_ret
  exact ⟨rfl, StepX.of (HS.out.trans HSN.out), cut, rfl, rfl, HG.out.step HSN.out⟩
 | succ m ih =>
  intro cut v g c w hm hl hc hv hbg
  obtain ⟨c0, c1, rfl, h0, h1⟩ := hv.hall
  obtain ⟨p0, k0, rfl⟩ := h0.form
  obtain ⟨p1, k1, rfl⟩ := h1.form
  obtain ⟨W0, hW0⟩ : ∃ W, W = w.alloc (.cells #[.slice p0 h.people.length k0, .slice p1 h.ways.length k1] 73) := ⟨_, rfl⟩
  have hb : Bx W0 w.heap.size [.slice p0 h.people.length k0, .slice p1 h.ways.length k1] 73 := by subst hW0; exact Bx.new w [_, _] _
  have hS : Step w W0 := by subst hW0; exact Step.alloc _ _
  have hav : ∀ W, StepX (fun j => j = g) W0 W → AV (fun j => j = g) W (.agg #[.slice p0 h.people.length k0, .slice p1 h.ways.length k1]) h := fun W hW => ⟨_, rfl, _, _, rfl, (h0.keep (.of_step hS)).keep hW.keeps, (h1.keep (.of_step hS)).keep hW.keeps⟩
  have HAV := zH hav
  have HG := zH (hbg.step hS)
  have HB := zH hb
  have HNG := zH (show w.heap.size ≠ g by have := hbg.lt; omega)
  have HS := zH hS
  have HW := zH hW0
  have HO := zH O
  have HIH := zH ih
  have hl10 := O.n10
  have e0 := hb.cell 0
  have e1 := hb.cell 1
  have bl := hb.lt
  simp only [zD, zE] at e0 e1
  obtain ⟨s, hs⟩ : ∃ s, s = cut.length - (m + 1) := ⟨_, rfl⟩
  rw [← hs]
  have hslt : s < cut.length := by omega
  have HSE := zH (show s = cut.length - (m + 1) ∧ s + 1 = cut.length - m from ⟨hs, by omega⟩)
  have HL := zH hl
  have hn10 : cut.length ≤ 10 := by omega
  have HC := zH (And.intro hc hm)
  clear hv h0 h1 hW0 hb hS hbg O hl hm hc hl10 hs ih hav
  go_enter Try.func76, Try.ntmps76
  go_upto_region 1 with (fail)
  rw [← HW.out]
  have d0 : ((s : Int) == (cut.length : Int)) = false := by simp; omega
  have d0' : (s == cut.length) = false := by simp; omega
  go_wp2_with fail
  refine (RAllH_any (fun j => j = g) h _ W0 (HAV.out W0 (StepX.refl _ _)) HO.out).mono ?_
  rintro e wa ⟨rfl, hSa⟩
  have HSA := zH (StepX.of (X := fun j => j = g) hSa)
  have HGA := zH (HG.out.step hSa)
  clear hSa d0 d0' HG e0 e1 bl
  go_wp2
  go_loopw [9, 10] (fun s9 s10 wr => ∃ (t : Nat) (cut' : List Int), t ≤ T + 2 ∧ s10 = .int .i64 t ∧ s9 = .int .i64 ((List.range t).foldl (fun (b : Int) (t : Nat) => min b (leastR h T m (cut.set (cut.length - (m + 1)) (t : Int)))) (allH h)) ∧ cut'.length = cut.length ∧ cut'.take s = cut.take s ∧ Bx wr g (cut'.map (.int .i64)) 3 ∧ StepX (fun j => j = g) W0 wr) (fun _ s10 _ => T + 2 - (intOf s10).toNat)
  case atStart => exact ⟨0, cut, by omega, rfl, rfl, rfl, rfl, HGA.out, HSA.out⟩
  case round =>
   obtain ⟨t, cut', ht, rfl, rfl, hl', htk, hbx, hX⟩ := hrel
   have HX := zH hX
   have HBX := zH hbx
   have HTK := zH (And.intro hl' htk)
   have hwT : IntKind.i64.wrap ((T : Int) + 1) = (T : Int) + 1 := by rw [IntKind.wrap_i64]; omega
   have hws : IntKind.i64.wrap ((s : Int) + 1) = ((s + 1 : Nat) : Int) := by rw [IntKind.wrap_i64] <;> omega
   clear hX hbx htk hl'
   by_cases hlt : t < T + 2
   ·have d0 : decide ((t : Int) ≤ (T : Int) + 1) = true := by simp; omega
    have cg := HBX.out.cell s
    have fg := HBX.out.frozen s
    have hbl := HB.out.keep HX.out.keeps HNG.out
    have e0 := hbl.cell 0
    have e1 := hbl.cell 1
    simp only [zD, zE] at e0 e1
    have hcg : ∃ u, wr.cell? ⟨g, s, none⟩ = some u := by
     rw [cg]
     exact ⟨_, List.getElem?_eq_getElem (by simp [HTK.out.1]; omega)⟩
    obtain ⟨u, hcg⟩ := hcg
    have hix : (0 : Int) ≤ (s : Int) ∧ (s : Int) < (cut.length : Int) := by omega
    have glt := HBX.out.lt
    clear cg hbl
    go_upto_region 8 with (fail)
    clear hcg fg e0 e1
    obtain ⟨W5, hW5⟩ : ∃ z, z = wr.setCell ⟨g, s, none⟩ (.int .i64 t) := ⟨_, rfl⟩
    rw [← hW5]
    have hb5 : Bx W5 g ((cut'.set s (t : Int)).map (.int .i64)) 3 := by subst hW5; rw [← ints_set]; exact HBX.out.setCell s _
    have hX5 : StepX (fun j => j = g) W0 W5 := by subst hW5; exact HX.out.trans ⟨rfl, rfl, rfl, by simp, fun k _ hk => Below.heap_setCell wr ⟨g, s, none⟩ _ k hk⟩
    have hbl := HB.out.keep hX5.keeps HNG.out
    have e0 := hbl.cell 0
    have e1 := hbl.cell 1
    simp only [zD, zE] at e0 e1
    have hl5 : (cut'.set s (t : Int)).length = cut.length := by rw [List.length_set]; exact HTK.out.1
    have hcall := HIH.out (cut'.set s (t : Int)) (.agg #[.slice p0 h.people.length k0, .slice p1 h.ways.length k1]) g c W5 (by rw [hl5]; have := HC.out.2; omega) (by rw [hl5]; exact HL.out) (by rw [hl5]; exact HC.out.1) (HAV.out W5 hX5) hb5
    rw [hl5, ← HSE.out.2] at hcall
    have hEQ : leastR h T m (cut'.set s (t : Int)) = leastR h T m (cut.set (cut.length - (m + 1)) (t : Int)) := by
     refine leastR_congr m _ _ (by rw [hl5]; simp) (by rw [hl5]; have := HC.out.2; omega) ?_
     rw [hl5, ← HSE.out.2, ← HSE.out.1]
     refine take_of_get fun j hj => ?_
     by_cases e : s = j
     ·subst e
      rw [List.getElem?_set, List.getElem?_set, if_pos rfl, if_pos rfl, if_pos (by rw [HTK.out.1]; omega), if_pos hslt]
     ·rw [List.getElem?_set, List.getElem?_set, if_neg e, if_neg e]
      exact take_eq_get HTK.out.2 (by omega)
    rw [hEQ] at hcall
    have HCALL := zH hcall
    have HX5 := zH hX5
    have HNX := zH (leastR_next (h := h) (T := T) m t cut)
    obtain ⟨A, hA⟩ : ∃ z, z = (List.range t).foldl (fun (b : Int) (t : Nat) => min b (leastR h T m (cut.set (cut.length - (m + 1)) (t : Int)))) (allH h) := ⟨_, rfl⟩
    obtain ⟨B, hB⟩ : ∃ z, z = leastR h T m (cut.set (cut.length - (m + 1)) (t : Int)) := ⟨_, rfl⟩
    rw [← hA, ← hB] at HNX
    rw [← hB] at HCALL
    rw [← hA]
    clear hcall hX5 hb5 hW5 hl5 hEQ hbl hA hB
    go_wp2_with fail
    refine HCALL.out.mono ?_
    rintro e wn ⟨rfl, hXn, cut2, h2l, h2t, h2b⟩
    have HX6 := zH (HX5.out.trans hXn)
    have H2 := zH (And.intro (show cut2.length = cut.length by simpa [HTK.out.1] using h2l) (And.intro h2t h2b))
    clear hXn h2l h2t h2b HCALL e0 e1 d0
    go_wp2
    go_roundw
    case rel =>
     refine ⟨t + 1, cut2, by omega, by go_num, ?_, H2.out.1, ?_, H2.out.2.2, HX6.out⟩
     ·rw [HNX.out]
      congr 1
      by_cases q : B < A
      ·rw [if_pos q]; omega
      ·rw [if_neg q]; omega
     ·have h1 := H2.out.2.1
      refine take_of_get fun j hj => ?_
      rw [take_eq_get h1 (show j < s + 1 by omega), List.getElem?_set, if_neg (by omega)]
      exact take_eq_get HTK.out.2 hj
    case measure => simp [intOf]; omega
   ·have d0 : decide ((t : Int) ≤ (T : Int) + 1) = false := by simp; omega
    have htT : t = T + 2 := by omega
    have HR := zH (show leastR h T (m + 1) cut = (List.range t).foldl (fun (b : Int) (t : Nat) => min b (leastR h T m (cut.set (cut.length - (m + 1)) (t : Int)))) (allH h) by rw [htT]; rfl)
    obtain ⟨A, hA⟩ : ∃ z, z = (List.range t).foldl (fun (b : Int) (t : Nat) => min b (leastR h T m (cut.set (cut.length - (m + 1)) (t : Int)))) (allH h) := ⟨_, rfl⟩
    rw [← hA] at HR
    rw [← hA]
    clear hA htT hlt
    go_wp2
    go_ret
    exact ⟨by rw [HR.out]; rfl, (StepX.of HS.out).trans HX.out, cut', HTK.out.1, HTK.out.2, HBX.out⟩
theorem light_any (S : Nat → Prop) (h : Hall) (m : Int) (v : Value) (w : World) (hv : AV S w v h) :
  Calls Try.prog 37 #[v, .int .i64 m] w fun e w' => e = .returned (.bool (decide (h.people.length ≤ 4) && decide (m ≤ 6))) ∧ Step w w' := by
 obtain ⟨c0, c1, rfl, h0, h1⟩ := hv.hall
 obtain ⟨p0, k0, rfl⟩ := h0.form
 obtain ⟨p1, k1, rfl⟩ := h1.form
 by_cases q0 : h.people.length ≤ 4
 ·have d0 : decide ((h.people.length : Int) ≤ 4) = true := decide_eq_true (by omega)
  have d1 : decide (h.people.length ≤ 4) = true := decide_eq_true q0
  have HD := zH d1
  clear d1
  go_enter Try.func37, Try.ntmps37
  go_wp2
  go_ret
  exact ⟨by rw [HD.out]; rfl, Step.alloc _ _⟩
 ·have d0 : decide ((h.people.length : Int) ≤ 4) = false := decide_eq_false (by omega)
  have d1 : decide (h.people.length ≤ 4) = false := decide_eq_false q0
  have HD := zH d1
  clear d1
  go_enter Try.func37, Try.ntmps37
  go_wp2
  go_ret
  exact ⟨by rw [HD.out]; rfl, Step.alloc _ _⟩
theorem RMost_any (S : Nat → Prop) (h : Hall) (T : Nat) (v : Value) (w : World) (hv0 : AV S w v h) (O : HallOk h) (hT : T ≤ 60) :
  Calls Try.prog 38 #[v, .int .i64 T] w fun e w' => e = .returned (.int .i64 (mostR h T)) ∧ Step w w' := by
 have hv := hv0.weak (T := fun j => w.heap.size ≤ j) (fun j hj hs => by omega)
 obtain ⟨c0, c1, rfl, h0, h1⟩ := hv.hall
 obtain ⟨p0, k0, rfl⟩ := h0.form
 obtain ⟨p1, k1, rfl⟩ := h1.form
 obtain ⟨W0, hW0⟩ : ∃ W, W = w.alloc (.cells #[.slice p0 h.people.length k0, .slice p1 h.ways.length k1] 73) := ⟨_, rfl⟩
 have hb : Bx W0 w.heap.size [.slice p0 h.people.length k0, .slice p1 h.ways.length k1] 73 := by subst hW0; exact Bx.new w [_, _] _
 have hS : Step w W0 := by subst hW0; exact Step.alloc _ _
 have hav : ∀ W, StepX (fun j => j = w.heap.size + 1) W0 W → AV (fun j => j = w.heap.size + 1) W (.agg #[.slice p0 h.people.length k0, .slice p1 h.ways.length k1]) h := fun W hW => ⟨_, rfl, _, _, rfl, ((h0.keep (.of_step hS)).keep (hW.keeps.mono fun j _ hj => by omega)).weak (fun j _ hj => by omega), ((h1.keep (.of_step hS)).keep (hW.keeps.mono fun j _ hj => by omega)).weak (fun j _ hj => by omega)⟩
 have HAV := zH hav
 have HB := zH hb
 have HS := zH hS
 have HW := zH hW0
 have HO := zH O
 have HZ := zH (show W0.heap.size = w.heap.size + 1 by subst hW0; simp)
 have hn10 := O.n10
 have hn2 := O.n2
 have e0 := hb.cell 0
 have e1 := hb.cell 1
 have bl := hb.lt
 simp only [zD, zE] at e0 e1
 have hwT : IntKind.i64.wrap ((T : Int) + 1) = (T : Int) + 1 := by rw [IntKind.wrap_i64]; omega
 clear hv hv0 h0 h1 hW0 hb hS hav O
 go_enter Try.func38, Try.ntmps38
 go_upto_region 1 with (fail)
 rw [← HW.out]
 go_upto_region 2 with (at_make; refine wpl_make (z := .int .i64 0) eiIntsH rfl _ _ rfl rfl .i64 .i64 h.people.length rfl rfl (by omega) (by omega) ?_)
 obtain ⟨g, hg⟩ : ∃ z, z = W0.heap.size := ⟨_, rfl⟩
 obtain ⟨W5, hW5⟩ : ∃ z, z = W0.alloc (.cells (Array.replicate h.people.length (.int .i64 0)) 3) := ⟨_, rfl⟩
 rw [← hW5, ← hg]
 have hb5 : Bx W5 g ((List.replicate h.people.length (0 : Int)).map (.int .i64)) 3 := by
  rw [show Array.replicate h.people.length (Value.int .i64 0) = ((List.replicate h.people.length (0 : Int)).map (Value.int .i64)).toArray by simp] at hW5
  subst hW5 hg; exact Bx.new _ _ _
 have hS5 : Step W0 W5 := by subst hW5; exact Step.alloc _ _
 have cg := hb5.cell 0
 have fg := hb5.frozen 0
 have glt := hb5.lt
 have hcg : ∃ u, W5.cell? ⟨g, 0, none⟩ = some u := by
  rw [cg]; exact ⟨_, List.getElem?_eq_getElem (by simp; omega)⟩
 obtain ⟨u, hcg⟩ := hcg
 have hix : (0 : Int) ≤ 0 ∧ (0 : Int) < (h.people.length : Int) := by omega
 have HB5 := zH hb5
 have HS5 := zH hS5
 have HG := zH (show g = w.heap.size + 1 by rw [hg, HZ.out])
 clear cg hb5 hS5 hW5 hg e0 e1 bl
 go_upto_region 3 with (fail)
 clear hcg fg
 obtain ⟨W6, hW6⟩ : ∃ z, z = W5.setCell ⟨g, 0, none⟩ (.int .i64 ((T : Int) + 1)) := ⟨_, rfl⟩
 rw [← hW6]
 obtain ⟨cut, hcut⟩ : ∃ z, z = (List.replicate h.people.length (0 : Int)).set 0 ((T : Int) + 1) := ⟨_, rfl⟩
 have hcl : cut.length = h.people.length := by rw [hcut]; simp
 have hb6 : Bx W6 g (cut.map (.int .i64)) 3 := by rw [hcut]; subst hW6; rw [← ints_set]; exact HB5.out.setCell 0 _
 have hX6 : StepX (fun j => j = g) W0 W6 := by subst hW6; exact (StepX.of HS5.out).trans ⟨rfl, rfl, rfl, by simp, fun k _ hk => Below.heap_setCell W5 ⟨g, 0, none⟩ _ k hk⟩
 have hn0 : w.heap.size ≠ g := by have := HG.out; omega
 have HE := zH (show mostR h T = min (allH h) (leastR h T (h.people.length - 1) cut) by unfold mostR; rw [← hcut])
 have HBX := zH (show ∀ W, StepX (fun j => j = g) W6 W → Bx W w.heap.size [.slice p0 h.people.length k0, .slice p1 h.ways.length k1] 73 from fun W hW => HB.out.keep (hX6.trans hW).keeps hn0)
 have HCL := zH hcl
 have HAG := zH (show ∀ W, StepX (fun j => j = g) W6 W → AV (fun j => j = g) W (.agg #[.slice p0 h.people.length k0, .slice p1 h.ways.length k1]) h from fun W hW => by
  have h1 := HAV.out W
  rw [← HG.out] at h1
  exact h1 (hX6.trans hW))
 have HX6 := zH hX6
 have HB6 := zH hb6
 clear hcut hcl hX6 hb6 hW6
 have n0 := (HBX.out _ (StepX.refl _ _)).cell 0
 have n1 := (HBX.out _ (StepX.refl _ _)).cell 1
 simp only [zD, zE] at n0 n1
 have hd : Step W6 W6.drew := Step.drew _
 have n0 := hd.kc n0
 have n1 := hd.kc n1
 have HD := zH hd
 go_region_with (first
  | (go_at_call 39; refine (RAllH_any (fun j => j = g) h _ W6.drew (HAG.out W6.drew (StepX.of HD.out)) HO.out).mono ?_; rintro e wn ⟨rfl, hSn⟩; have n0 := hSn.kc n0; have n1 := hSn.kc n1; have HSN := zH (HD.out.trans hSn); clear hSn)
  | (go_at_call 76; have hcall := Rleast_any h T HO.out hT (h.people.length - 1) cut (.agg #[.slice p0 h.people.length k0, .slice p1 h.ways.length k1]) g h.people.length wn (by rw [HCL.out]; omega) HCL.out (by rw [HCL.out]; exact Nat.le_refl _) (HAG.out wn (StepX.of HSN.out)) (HB6.out.step HSN.out); rw [HCL.out, show ((h.people.length - (h.people.length - 1) : Nat) : Int) = 1 by omega] at hcall; refine hcall.mono ?_; rintro e wl ⟨rfl, hXn, _⟩; have HX := zH ((StepX.of (X := fun j => j = g) HSN.out).trans hXn); clear hXn hcall))
 all_goals go_wp2
 all_goals
  go_ret
  refine ⟨?_, StepX.fresh HS.out (HX6.out.trans HX.out) (fun j hj => by have := HG.out; omega)⟩
  rw [HE.out]
  show Ending.returned (.int .i64 _) = Ending.returned (.int .i64 _)
  congr 2
  omega
theorem GaleStuck_any (h : Hall) (m : Int) (v : Value) (w : World) (hv : AV (fun _ => False) w v h) : Calls Try.prog 5 #[v, .int .i64 m] w fun e w' => e = .returned (.bool true) ∧ Step w w' := by
 obtain ⟨c0, c1, rfl, h0, h1⟩ := hv.hall
 obtain ⟨p0, k0, rfl⟩ := h0.form
 obtain ⟨p1, k1, rfl⟩ := h1.form
 obtain ⟨W0, hW0⟩ : ∃ W, W = w.alloc (.cells #[.slice p0 h.people.length k0, .slice p1 h.ways.length k1] 73) := ⟨_, rfl⟩
 have hb : Bx W0 w.heap.size [.slice p0 h.people.length k0, .slice p1 h.ways.length k1] 73 := by subst hW0; exact Bx.new w [_, _] _
 have hS : Step w W0 := by subst hW0; exact Step.alloc _ _
 have hav : ∀ W, Step W0 W → AV (fun _ => False) W (.agg #[.slice p0 h.people.length k0, .slice p1 h.ways.length k1]) h := fun W hW => ⟨_, rfl, _, _, rfl, h0.keep (.of_step (hS.trans hW)), h1.keep (.of_step (hS.trans hW))⟩
 have HAV := zH hav
 have HS := zH hS
 have HW := zH hW0
 have HB := zH hb
 have HT := zH (Step.refl W0)
 clear hv h0 h1 hW0 hb hS hav
 go_enter Try.func5, Try.ntmps5
 go_upto_region 1 with (fail)
 rw [← HW.out]
 have e0 := (HB.out.step HT.out).cell 0
 have e1 := (HB.out.step HT.out).cell 1
 simp only [zD, zE] at e0 e1
 go_wp2_with fail
 refine (SmallH_any (fun _ => False) h _ _ (HAV.out _ HT.out)).mono ?_
 rintro e wn ⟨rfl, hSn⟩
 have HTn := zH (HT.out.trans hSn)
 have HSN := zH hSn
 clear HT hSn
 have HT := HTn
 clear HTn
 clear e0 e1
 cases hs : decide (h.people.length ≤ 15 ∧ h.ways.length ≤ 25) with
 | false =>
  clear hs
  go_wp2_with fail
  refine (gwakes_any _).mono ?_
  rintro e wn ⟨rfl, hSn⟩
  have HTn := zH (HT.out.trans hSn)
  have HSN := zH hSn
  clear HT hSn
  have HT := HTn
  clear HTn
  go_wp2
  go_ret
  exact ⟨rfl, HS.out.trans HT.out⟩
 | true =>
 have HL := zH (show h.people.length ≤ 1000 ∧ h.ways.length ≤ 1000 by have := of_decide_eq_true hs; omega)
 clear hs
 have e0 := (HB.out.step HT.out).cell 0
 have e1 := (HB.out.step HT.out).cell 1
 simp only [zD, zE] at e0 e1
 go_wp2_with fail
 refine (GHall_any (fun _ => False) h _ _ (HAV.out _ HT.out) HL.out.1 HL.out.2).mono ?_
 rintro e wn ⟨va, rfl, hv', hSn⟩
 have HVva := zH (av0 hv')
 clear hv' e0 e1
 have HTn := zH (HT.out.trans hSn)
 have HSN := zH hSn
 clear HT hSn
 have HT := HTn
 clear HTn
 go_wp2_with fail
 refine (Stuck_any (fun _ => False) h m _ _ HVva.out).mono ?_
 rintro e wn ⟨c, cut, vc, rfl, hSt, hcv, hSn⟩
 have HCV0 := zH (sl0 hcv)
 have HST := zH hSt
 obtain ⟨pc, kc, rfl⟩ := hcv.form
 clear hcv hSt HVva HSN
 have HTn := zH (HT.out.trans hSn)
 have HSN := zH hSn
 clear HT hSn
 have HT := HTn
 clear HTn
 clear HSN
 have e0 := (HB.out.step HT.out).cell 0
 have e1 := (HB.out.step HT.out).cell 1
 simp only [zD, zE] at e0 e1
 go_wp2_with fail
 refine (RRightHall_any (fun _ => False) h _ _ (HAV.out _ HT.out)).mono ?_
 rintro e wn ⟨rfl, hSn⟩
 have HTn := zH (HT.out.trans hSn)
 have HSN := zH hSn
 clear HT hSn
 have HT := HTn
 clear HTn
 clear e0 e1
 have HCV := zH (HCV0.out.keep (.of_step HSN.out))
 clear HCV0 HSN
 have qa := HB.out.step HT.out
 have qb := HS.out.trans HT.out
 have qc := fun W (hW : Step wn W) => HAV.out W (HT.out.trans hW)
 clear HB HS HAV HT
 have HB := zH qa
 have HS := zH qb
 have HAV := zH qc
 have HT := zH (Step.refl wn)
 clear qa qb qc
 cases hb : hallB h with
 | false =>
  obtain ⟨rfl, rfl⟩ := HST.out.bad hb
  clear hb
  go_wp2_with fail
  refine (gwakes_any _).mono ?_
  rintro e wn ⟨rfl, hSn⟩
  have HTn := zH (HT.out.trans hSn)
  have HSN := zH hSn
  clear HT hSn
  have HT := HTn
  clear HTn
  go_wp2
  go_ret
  exact ⟨rfl, HS.out.trans HT.out⟩
 | true =>
 have HQ := zH hb
 have HO := zH (hallB_iff.1 hb)
 clear hb
 go_wp2_with fail
 refine (bigtopref01.In_any _ _ _ _).mono ?_
 rintro e wz ⟨rfl, rfl⟩
 cases hm : withinB m 0 60 with
 | false =>
  obtain ⟨rfl, rfl⟩ := HST.out.range HQ.out (by simp [withinB] at hm; omega)
  clear hm
  go_wp2_with fail
  refine (gwakes_any _).mono ?_
  rintro e wn ⟨rfl, hSn⟩
  have HTn := zH (HT.out.trans hSn)
  have HSN := zH hSn
  clear HT hSn
  have HT := HTn
  clear HTn
  go_wp2
  go_ret
  exact ⟨rfl, HS.out.trans HT.out⟩
 | true =>
 have hm2 : 0 ≤ m ∧ m ≤ 60 := by simp [withinB] at hm; omega
 obtain ⟨T, rfl⟩ : ∃ T : Nat, m = T := ⟨m.toNat, by omega⟩
 have HT60 := zH (show T ≤ 60 by omega)
 have HM2 := zH hm2
 obtain ⟨M, hM⟩ : ∃ z, z = mostR h T := ⟨_, rfl⟩
 obtain ⟨A, hA⟩ : ∃ z, z = allH h := ⟨_, rfl⟩
 have HMA := zH (And.intro hM hA)
 have HF := zH (show M = A ↔ Feas h T by rw [hM, hA]; exact mostR_feas HO.out)
 clear hM hA hm hm2
 by_cases F : Feas h T
 ·obtain ⟨rfl, rfl⟩ := HST.out.out HQ.out HM2.out (by rw [Int.toNat_natCast]; exact F)
  have hma := HF.out.2 F
  have dm : (M == A) = true := by simp [hma]
  have dm' : decide (M = A) = true := by simp [hma]
  clear F hma
  go_upto_region 8 with (fail)
  refine wp_region_seq (kdOf [2, 6, 8] []) [0, 0, 3, 7, 15, 15, 63, 15, 255, 511, 15, 1039, 4095, 8191] [0, 1, 2, 3, 4, 5, 7, 10, 11, 6, 8, 9, 12, 13] [] (by kernel_rfl) (by kernel_rfl) (fun i T z hi hk => by simp [kdOf] at hk <;> (try (split at hk <;> cases hk))) ?_
  intro Wx hWx
  have HTx := zH (HT.out.trans hWx)
  clear hWx HT
  have HT := HTx
  clear HTx
  have e0 := (HB.out.step HT.out).cell 0
  have e1 := (HB.out.step HT.out).cell 1
  simp only [zD, zE] at e0 e1
  repeat ((first | (refine run_off rfl rfl (by rfl) ?_) | (refine run_chain_off rfl rfl (by rfl) (K0_mono _) ?_) | ((refine run_want rfl rfl (by rfl) ⟨?_, fun W hW => ?_, ?_⟩; rotate_left; (· (have d0 := hW.kc e0; have d1 := hW.kc e1; go_simp; (try with_reducible rfl)))))); (try simp only [Act.put, zA, zB, zC]))
  clear e0 e1
  refine run_chain rfl rfl (by rfl) (fun Wi hWi K' hK => ?_)
  have HTi := zH (HT.out.trans hWi)
  have HZW := zH HTi.out.size
  clear hWi HT
  go_simp
  refine (light_any (fun _ => False) h (T : Int) _ Wi (HAV.out _ HTi.out)).mono ?_
  rintro e wn ⟨rfl, hSn⟩
  have HT := zH (HTi.out.trans (StepX.of hSn))
  clear HTi
  refine hK _ _ (StepX.of hSn) ?_
  clear hSn
  (try simp only [Act.put, zA, zB, zC])
  cases hl : (decide (h.people.length ≤ 4) && decide ((T : Int) ≤ 6)) with
  | false =>
   have HLL := zH hl
   clear hl
   repeat ((first | (refine run_off rfl rfl (by rfl) ?_) | (refine run_chain_off rfl rfl (by rfl) (K0_mono _) ?_) | ((refine run_want rfl rfl (by rfl) ⟨?_, fun W hW => ?_, ?_⟩; rotate_left; (· (skip; go_simp; (try with_reducible rfl)))))); (try simp only [Act.put, zA, zB, zC]))
   refine run_end (L := []) rfl (fun W6 hW6 => ?_)
   have HT6 := zH (HT.out.trans hW6)
   clear hW6 HT
   have HT := HT6
   clear HT6
   go_wp2_with fail
   refine (gwakes_any _).mono ?_
   rintro e wn ⟨rfl, hSn⟩
   have HTn := zH (HT.out.trans hSn)
   have HSN := zH hSn
   clear HT hSn
   have HT := HTn
   clear HTn
   go_wp2
   go_ret
   exact ⟨rfl, HS.out.trans HT.out⟩
  | true =>
  have HLL := zH hl
  clear hl
  have e0 := (HB.out.step HT.out).cell 0
  have e1 := (HB.out.step HT.out).cell 1
  simp only [zD, zE] at e0 e1
  repeat ((first | (refine run_off rfl rfl (by rfl) ?_) | (refine run_chain_off rfl rfl (by rfl) (K0_mono _) ?_) | ((refine run_want rfl rfl (by rfl) ⟨?_, fun W hW => ?_, ?_⟩; rotate_left; (· (have d0 := hW.kc e0; have d1 := hW.kc e1; go_simp; (try with_reducible rfl)))))); (try simp only [Act.put, zA, zB, zC]))
  clear e0 e1
  refine run_chain rfl rfl (by rfl) (fun Wi hWi K' hK => ?_)
  have HTi := zH (HT.out.trans hWi)
  have HZW := zH HTi.out.size
  clear hWi HT
  go_simp
  refine (RMost_any (fun _ => False) h T _ Wi (HAV.out _ HTi.out) HO.out HT60.out).mono ?_
  rintro e wn ⟨rfl, hSn⟩
  have HT := zH (HTi.out.trans (StepX.of hSn))
  clear HTi
  refine hK _ _ (StepX.of hSn) ?_
  clear hSn
  (try simp only [Act.put, zA, zB, zC])
  have e0 := (HB.out.step HT.out).cell 0
  have e1 := (HB.out.step HT.out).cell 1
  simp only [zD, zE] at e0 e1
  repeat ((first | (refine run_off rfl rfl (by rfl) ?_) | (refine run_chain_off rfl rfl (by rfl) (K0_mono _) ?_) | ((refine run_want rfl rfl (by rfl) ⟨?_, fun W hW => ?_, ?_⟩; rotate_left; (· (have d0 := hW.kc e0; have d1 := hW.kc e1; go_simp; (try with_reducible rfl)))))); (try simp only [Act.put, zA, zB, zC]))
  clear e0 e1
  refine run_chain rfl rfl (by rfl) (fun Wi hWi K' hK => ?_)
  have HTi := zH (HT.out.trans hWi)
  have HZW := zH HTi.out.size
  clear hWi HT
  go_simp
  refine (RAllH_any (fun _ => False) h _ Wi (HAV.out _ HTi.out) HO.out).mono ?_
  rintro e wn ⟨rfl, hSn⟩
  have HT := zH (HTi.out.trans (StepX.of hSn))
  clear HTi
  refine hK _ _ (StepX.of hSn) ?_
  clear hSn
  (try simp only [Act.put, zA, zB, zC])
  rw [← HMA.out.1, ← HMA.out.2]
  repeat ((first | (refine run_off rfl rfl (by rfl) ?_) | (refine run_chain_off rfl rfl (by rfl) (K0_mono _) ?_) | ((refine run_want rfl rfl (by rfl) ⟨?_, fun W hW => ?_, ?_⟩; rotate_left; (· (skip; go_simp; (try with_reducible rfl)))))); (try simp only [Act.put, zA, zB, zC]))
  refine run_end (L := []) rfl (fun W6 hW6 => ?_)
  have HT6 := zH (HT.out.trans hW6)
  clear hW6 HT
  have HT := HT6
  clear HT6
  go_wp2_with fail
  refine (gwakes_any _).mono ?_
  rintro e wn ⟨rfl, hSn⟩
  have HTn := zH (HT.out.trans hSn)
  have HSN := zH hSn
  clear HT hSn
  have HT := HTn
  clear HTn
  go_wp2
  go_ret
  exact ⟨rfl, HS.out.trans HT.out⟩
 ·obtain ⟨rfl, hstk⟩ := HST.out.cut HQ.out HM2.out (by rw [Int.toNat_natCast]; exact F)
  have hma : ¬ M = A := fun e => F (HF.out.1 e)
  have dm : (M == A) = false := by simp [hma]
  have dm' : decide (M = A) = false := by simp [hma]
  rw [Int.toNat_natCast, stuckB_size HO.out, Bool.and_eq_true] at hstk
  have HSB := zH hstk
  clear F hma hstk
  have hz1 := HSB.out.1
  have hz2 := HSB.out.2
  go_upto_region 8 with (fail)
  refine wp_region_seq (kdOf [2, 6, 8] []) [0, 0, 3, 7, 15, 15, 63, 15, 255, 511, 15, 1039, 4095, 8191] [0, 1, 2, 3, 4, 5, 7, 10, 11, 6, 8, 9, 12, 13] [] (by kernel_rfl) (by kernel_rfl) (fun i T z hi hk => by simp [kdOf] at hk <;> (try (split at hk <;> cases hk))) ?_
  intro Wx hWx
  have HTx := zH (HT.out.trans hWx)
  clear hWx HT
  have HT := HTx
  clear HTx
  have e0 := (HB.out.step HT.out).cell 0
  have e1 := (HB.out.step HT.out).cell 1
  simp only [zD, zE] at e0 e1
  repeat ((first | (refine run_off rfl rfl (by rfl) ?_) | (refine run_chain_off rfl rfl (by rfl) (K0_mono _) ?_) | ((refine run_want rfl rfl (by rfl) ⟨?_, fun W hW => ?_, ?_⟩; rotate_left; (· (have d0 := hW.kc e0; have d1 := hW.kc e1; go_simp; (try with_reducible rfl)))))); (try simp only [Act.put, zA, zB, zC]))
  clear e0 e1
  refine run_chain rfl rfl (by rfl) (fun Wi hWi K' hK => ?_)
  have HTi := zH (HT.out.trans hWi)
  have HZW := zH HTi.out.size
  clear hWi HT
  go_simp
  refine (light_any (fun _ => False) h (T : Int) _ Wi (HAV.out _ HTi.out)).mono ?_
  rintro e wn ⟨rfl, hSn⟩
  have HT := zH (HTi.out.trans (StepX.of hSn))
  clear HTi
  refine hK _ _ (StepX.of hSn) ?_
  clear hSn
  (try simp only [Act.put, zA, zB, zC])
  cases hl : (decide (h.people.length ≤ 4) && decide ((T : Int) ≤ 6)) with
  | false =>
   have HLL := zH hl
   clear hl
   repeat ((first | (refine run_off rfl rfl (by rfl) ?_) | (refine run_chain_off rfl rfl (by rfl) (K0_mono _) ?_) | ((refine run_want rfl rfl (by rfl) ⟨?_, fun W hW => ?_, ?_⟩; rotate_left; (· (skip; go_simp; (try with_reducible rfl)))))); (try simp only [Act.put, zA, zB, zC]))
   refine run_end (L := []) rfl (fun W6 hW6 => ?_)
   have HT6 := zH (HT.out.trans hW6)
   clear hW6 HT
   have HT := HT6
   clear HT6
   have e0 := (HB.out.step HT.out).cell 0
   have e1 := (HB.out.step HT.out).cell 1
   simp only [zD, zE] at e0 e1
   go_wp2_with fail
   refine (RSize_any (fun _ => False) h T cut _ _ _ (HAV.out _ HT.out) (HCV.out.keep (.of_step HT.out)) HO.out HT60.out).mono ?_
   rintro e wn ⟨rfl, hSn⟩
   have HTn := zH (HT.out.trans hSn)
   have HSN := zH hSn
   clear HT hSn
   have HT := HTn
   clear HTn
   clear HSN e0 e1
   have e0 := (HB.out.step HT.out).cell 0
   have e1 := (HB.out.step HT.out).cell 1
   simp only [zD, zE] at e0 e1
   go_wp2_with fail
   refine (RAllH_any (fun _ => False) h _ _ (HAV.out _ HT.out) HO.out).mono ?_
   rintro e wn ⟨rfl, hSn⟩
   have HTn := zH (HT.out.trans hSn)
   have HSN := zH hSn
   clear HT hSn
   have HT := HTn
   clear HTn
   clear HSN e0 e1
   go_wp2_with fail
   refine (gwakes_any _).mono ?_
   rintro e wn ⟨rfl, hSn⟩
   have HTn := zH (HT.out.trans hSn)
   have HSN := zH hSn
   clear HT hSn
   have HT := HTn
   clear HTn
   go_wp2
   go_ret
   exact ⟨rfl, HS.out.trans HT.out⟩
  | true =>
  have HLL := zH hl
  clear hl
  have e0 := (HB.out.step HT.out).cell 0
  have e1 := (HB.out.step HT.out).cell 1
  simp only [zD, zE] at e0 e1
  repeat ((first | (refine run_off rfl rfl (by rfl) ?_) | (refine run_chain_off rfl rfl (by rfl) (K0_mono _) ?_) | ((refine run_want rfl rfl (by rfl) ⟨?_, fun W hW => ?_, ?_⟩; rotate_left; (· (have d0 := hW.kc e0; have d1 := hW.kc e1; go_simp; (try with_reducible rfl)))))); (try simp only [Act.put, zA, zB, zC]))
  clear e0 e1
  refine run_chain rfl rfl (by rfl) (fun Wi hWi K' hK => ?_)
  have HTi := zH (HT.out.trans hWi)
  have HZW := zH HTi.out.size
  clear hWi HT
  go_simp
  refine (RMost_any (fun _ => False) h T _ Wi (HAV.out _ HTi.out) HO.out HT60.out).mono ?_
  rintro e wn ⟨rfl, hSn⟩
  have HT := zH (HTi.out.trans (StepX.of hSn))
  clear HTi
  refine hK _ _ (StepX.of hSn) ?_
  clear hSn
  (try simp only [Act.put, zA, zB, zC])
  have e0 := (HB.out.step HT.out).cell 0
  have e1 := (HB.out.step HT.out).cell 1
  simp only [zD, zE] at e0 e1
  repeat ((first | (refine run_off rfl rfl (by rfl) ?_) | (refine run_chain_off rfl rfl (by rfl) (K0_mono _) ?_) | ((refine run_want rfl rfl (by rfl) ⟨?_, fun W hW => ?_, ?_⟩; rotate_left; (· (have d0 := hW.kc e0; have d1 := hW.kc e1; go_simp; (try with_reducible rfl)))))); (try simp only [Act.put, zA, zB, zC]))
  clear e0 e1
  refine run_chain rfl rfl (by rfl) (fun Wi hWi K' hK => ?_)
  have HTi := zH (HT.out.trans hWi)
  have HZW := zH HTi.out.size
  clear hWi HT
  go_simp
  refine (RAllH_any (fun _ => False) h _ Wi (HAV.out _ HTi.out) HO.out).mono ?_
  rintro e wn ⟨rfl, hSn⟩
  have HT := zH (HTi.out.trans (StepX.of hSn))
  clear HTi
  refine hK _ _ (StepX.of hSn) ?_
  clear hSn
  (try simp only [Act.put, zA, zB, zC])
  rw [← HMA.out.1, ← HMA.out.2]
  repeat ((first | (refine run_off rfl rfl (by rfl) ?_) | (refine run_chain_off rfl rfl (by rfl) (K0_mono _) ?_) | ((refine run_want rfl rfl (by rfl) ⟨?_, fun W hW => ?_, ?_⟩; rotate_left; (· (skip; go_simp; (try with_reducible rfl)))))); (try simp only [Act.put, zA, zB, zC]))
  refine run_end (L := []) rfl (fun W6 hW6 => ?_)
  have HT6 := zH (HT.out.trans hW6)
  clear hW6 HT
  have HT := HT6
  clear HT6
  have e0 := (HB.out.step HT.out).cell 0
  have e1 := (HB.out.step HT.out).cell 1
  simp only [zD, zE] at e0 e1
  go_wp2_with fail
  refine (RSize_any (fun _ => False) h T cut _ _ _ (HAV.out _ HT.out) (HCV.out.keep (.of_step HT.out)) HO.out HT60.out).mono ?_
  rintro e wn ⟨rfl, hSn⟩
  have HTn := zH (HT.out.trans hSn)
  have HSN := zH hSn
  clear HT hSn
  have HT := HTn
  clear HTn
  clear HSN e0 e1
  have e0 := (HB.out.step HT.out).cell 0
  have e1 := (HB.out.step HT.out).cell 1
  simp only [zD, zE] at e0 e1
  go_wp2_with fail
  refine (RAllH_any (fun _ => False) h _ _ (HAV.out _ HT.out) HO.out).mono ?_
  rintro e wn ⟨rfl, hSn⟩
  have HTn := zH (HT.out.trans hSn)
  have HSN := zH hSn
  clear HT hSn
  have HT := HTn
  clear HTn
  clear HSN e0 e1
  go_wp2_with fail
  refine (gwakes_any _).mono ?_
  rintro e wn ⟨rfl, hSn⟩
  have HTn := zH (HT.out.trans hSn)
  have HSN := zH hSn
  clear HT hSn
  have HT := HTn
  clear HTn
  go_wp2
  go_ret
  exact ⟨rfl, HS.out.trans HT.out⟩
end Go.Proofs.Ytfhmdpicoccnfaa
