/- Walks and plain laws, part m. -/
import Derived.Test.YtfhmdpicoccnfaaMc
import Derived.Test.YtfhmdpicoccnfaaMk
import Derived.Test.YtfhmdpicoccnfaaRows
set_option maxHeartbeats 16000000
set_option maxRecDepth 100000
namespace Go.Proofs.Ytfhmdpicoccnfaa
set_option linter.unusedSimpArgs false
set_option linter.unusedVariables false
open Go.RowKit Go.BT
theorem RIsOut_any (S : Nat → Prop) (h : Hall) (T : Nat) (pl : List (List Int)) (v cv : Value) (w : World) (hv0 : AV S w v h) (hc0 : SL S w cv pl) (O : HallOk h) (hT : T ≤ 60) :
  Calls Try.prog 43 #[v, .int .i64 T, cv] w fun e w' => e = .returned (.bool (outB h T pl)) ∧ Step w w' := by
 have hv := av0 hv0
 have hcv := sl0 hc0
 obtain ⟨c0, c1, rfl, h0, h1⟩ := hv.hall
 obtain ⟨pp, kp, bp, op, rfl, _, hlp, hpp, hcp, _⟩ := h0.ints
 obtain ⟨pw, kw, bw, ow, rfl, _, hlw, hpw, hcw, _⟩ := h1.wys
 obtain ⟨pc, kc, bc, oc, rfl, _, hlc, hpc, hcc, _⟩ := hcv.rows
 obtain ⟨W0, hW0⟩ : ∃ W, W = w.alloc (.cells #[.slice pp h.people.length kp, .slice pw h.ways.length kw] 73) := ⟨_, rfl⟩
 have hb : Bx W0 w.heap.size [.slice pp h.people.length kp, .slice pw h.ways.length kw] 73 := by subst hW0; exact Bx.new w [_, _] _
 have hS : Step w W0 := by subst hW0; exact Step.alloc _ _
 have hav : ∀ W, Step W0 W → AV (fun _ => False) W (.agg #[.slice pp h.people.length kp, .slice pw h.ways.length kw]) h := fun W hW => ⟨_, rfl, _, _, rfl, h0.keep (.of_step (hS.trans hW)), h1.keep (.of_step (hS.trans hW))⟩
 have HAV := zH hav
 have HS := zH hS
 have HW := zH hW0
 have HB := zH hb
 have H0 := zH h0
 have HO := zH O
 have HPP := zH (And.intro hpp hcp)
 have HPW := zH (And.intro hpw hcw)
 have HPC := zH (And.intro hpc hcc)
 have e0 := hb.cell 0
 have e1 := hb.cell 1
 have bl := hb.lt
 simp only [zD, zE] at e0 e1
 have hw20 := O.w20
 have hn10 := O.n10
 clear hv hv0 h0 h1 hW0 hb hS hav hc0 hcv hpp hcp hpw hcw hpc hcc O
 go_enter Try.func43, Try.ntmps43
 go_upto_region 1 with (fail)
 rw [← HW.out]
 have HTR := zH (Step.refl W0)
 by_cases hlen : pl.length = h.ways.length
 case neg =>
  have q2' : ((pl.length : Int) != (h.ways.length : Int)) = true := by simpa [bne] using (by omega : ¬ (pl.length : Int) = h.ways.length)
  have hno := outB_len (T := T) hlen
  clear hlen
  have HV := zH hno
  clear hno
  go_wp2
  go_ret
  exact ⟨by rw [HV.out]; rfl, HS.out.trans HTR.out⟩
 have q2' : ((pl.length : Int) != (h.ways.length : Int)) = false := by simp [bne, hlen]
 have HL := zH hlen
 clear hlen
 go_wp2
 clear q2' e0 e1
 go_loopw [7] (fun s7 wr => ∃ i : Nat, i ≤ pl.length ∧ s7 = .int .i64 i ∧ (∀ j, j < i → rowOk h T pl j = true) ∧ Step W0 wr) (fun s7 _ => pl.length - (intOf s7).toNat)
 case atStart => exact ⟨0, Nat.zero_le _, rfl, (fun j hj => by omega), HTR.out⟩
 case round =>
  obtain ⟨i, hi, rfl, hrow, hT1⟩ := hrel
  have HROW := zH hrow
  have HTR := zH hT1
  clear hrow hT1
  by_cases hpl : i < pl.length
  ·obtain rfl := HPC.out.1 (by omega)
   obtain ⟨ur, hcr, hur⟩ := HPC.out.2 i hpl
   obtain ⟨pr, kr, br, or_, rfl, _, _, hpr, hcr2, _⟩ := hur.ints
   have hil : i < h.ways.length := by have := HL.out; omega
   obtain rfl := HPW.out.1 (by omega)
   obtain ⟨y0, y1, y2, y3⟩ := HPW.out.2 i hil
   obtain ⟨wa, wb, wc, wd⟩ := way_conds HO.out T hil
   have hwy := HO.out.way i hil
   rw [← wd] at y2 hwy
   rw [← wc] at y3 hwy
   have hcap : (wyAt h i).cap = (netOf h T).c i := rfl
   have hmin : (wyAt h i).mins.toNat = (netOf h T).d i := rfl
   obtain ⟨D, hD⟩ : ∃ z, z = (netOf h T).d i := ⟨_, rfl⟩
   obtain ⟨C, hC⟩ : ∃ z, z = (netOf h T).c i := ⟨_, rfl⟩
   rw [← hC] at y2 hwy hcap
   rw [← hD] at y3 hwy hmin
   have hst := HS.out.trans HTR.out
   have hcr := hst.kc hcr
   have HYC := zH (show ∀ W, Step W0 W → W.cell? ⟨bw, ow + i * 4 + 2, none⟩ = some (.int .i64 C) ∧ W.cell? ⟨bw, ow + i * 4 + 3, none⟩ = some (.int .i64 D) from fun W hW => ⟨(HS.out.trans hW).kc y2, (HS.out.trans hW).kc y3⟩)
   have HRC := zH (show ∀ W, Step wr W → W.cell? ⟨bc, oc + i, none⟩ = some (.slice pr pl[i].length kr) from fun W hW => hW.kc hcr)
   have hD1 : 1 ≤ D ∧ D ≤ 15 := by omega
   have hC1 : 0 ≤ C ∧ C ≤ 1000 := by omega
   have hpf : ∀ t (ht : t < pl[i].length), planF pl i t = pl[i][t] := fun t ht => by simp [planF, List.getD_eq_getElem?_getD, hpl, ht]
   have hcr2 : ∀ t, t < pl[i].length → w.cell? ⟨br, or_ + t, none⟩ = some (.int .i64 (planF pl i t)) := fun t ht => by rw [hpf t ht]; exact hcr2 t ht
   have hgd : (pl.getD i []).length = pl[i].length := by simp [List.getD_eq_getElem?_getD, hpl]
   obtain ⟨ρl, hρ⟩ : ∃ z, z = pl[i].length := ⟨_, rfl⟩
   rw [← hρ] at hcr hgd hcr2 hpr HRC
   have HR := zH (And.intro hgd (And.intro hpr hcr2))
   have HU := zH (And.intro hcap hmin)
   have hixp : (0 : Int) ≤ (i : Int) ∧ (i : Int) < (pl.length : Int) := by omega
   have hixw : (0 : Int) ≤ (i : Int) ∧ (i : Int) < (h.ways.length : Int) := by omega
   clear wa wb wc wd hwy hD hC hst hcap hmin hgd hpr hcr2 hur hpf hρ y0 y1 y2 y3
   by_cases hrl : ρl = T
   case neg =>
    have q3' : ((ρl : Int) != (T : Int)) = true := by simpa [bne] using (by omega : ¬ (ρl : Int) = T)
    have hno := outB_row (pl := pl) (T := T) hil fun hr => hrl (by rw [← HR.out.1]; exact (rowOk_iff.1 hr).1)
    clear hrl
    have HV := zH hno
    clear hno
    go_wp2
    go_ret
    exact ⟨by rw [HV.out]; rfl, HS.out.trans HTR.out⟩
   have q3' : ((ρl : Int) != (T : Int)) = false := by simp [bne, hrl]
   have HRL := zH hrl
   clear hrl
   go_wp2
   clear hcr q3'
   go_loopw [8] (fun s8 wr2 => ∃ t : Nat, t ≤ T ∧ s8 = .int .i64 t ∧ (∀ u, u < t → entOk h T pl i u = true) ∧ Step wr wr2) (fun s8 _ => T - (intOf s8).toNat)
   case atStart => exact ⟨0, Nat.zero_le _, rfl, (fun u hu => by omega), Step.refl _⟩
   case round =>
    obtain ⟨t, ht, rfl, hent, hT2⟩ := hrel
    have HENT := zH hent
    have HT2 := zH hT2
    have HTR2 := zH (HTR.out.trans hT2)
    clear hent hT2
    by_cases htl : t < T
    ·have hrl := HRL.out
     obtain rfl := HR.out.2.1 (by omega)
     have p0 := (HS.out.trans HTR2.out).kc (HR.out.2.2 t (by omega))
     have hcr := HRC.out _ HT2.out
     obtain ⟨y2, y3⟩ := HYC.out _ HTR2.out
     have e1 := (HB.out.step HTR2.out).cell 1
     simp only [zD, zE] at e1
     obtain ⟨x, hx⟩ : ∃ z, z = planF pl i t := ⟨_, rfl⟩
     rw [← hx] at p0
     have hixt : (0 : Int) ≤ (t : Int) ∧ (t : Int) < (ρl : Int) := by omega
     have HE := zH (show entOk h T pl i t = (decide (0 ≤ x ∧ x ≤ C) && decide (0 < x → t + D ≤ T)) by unfold entOk; rw [HU.out.1, HU.out.2, ← hx])
     have HX := zH hx
     have HBAD := zH (show entOk h T pl i t = false → outB h T pl = false from fun he => outB_row hil fun hr => by rw [(rowOk_iff.1 hr).2 t htl] at he; cases he)
     have hw1 : IntKind.i64.wrap ((t : Int) + (D : Int)) = ((t + D : Nat) : Int) := by rw [IntKind.wrap_i64] <;> omega
     have hwb : withinB x 0 C = (decide (0 ≤ x) && decide (x ≤ C)) := rfl
     have HT := zH (Step.refl wr)
     have HP0 := zH p0
     have HHCR := zH hcr
     have HY3 := zH y3
     have HE1 := zH e1
     clear hx hrl
     go_upto_region 11 with (fail)
     cases q0 : withinB x 0 C with
     | false =>
      have hno := HBAD.out (by rw [HE.out, Bool.decide_and, ← hwb, q0]; rfl)
      clear hwb
      refine wp_region_seq (kdOf [13] []) (0 :: 0 :: 3 :: 7 :: 0 :: 31 :: 63 :: 0 :: 128 :: 0 :: 896 :: 1920 :: 3968 :: 8191 :: 16383 :: 32767 :: 65535 :: 65535 :: 262143 :: 524287 :: 65535 :: 2097151 :: 4194303 :: 8388607 :: 16777215 :: 33554431 :: 33554431 :: 100663295 :: 33554431 :: 503316479 :: 1040187391 :: 2113929215 :: 4294967295 :: 33554431 :: 17179869183 :: 34359738367 :: 68719476735 :: []) (0 :: 1 :: 2 :: 3 :: 4 :: 5 :: 6 :: 7 :: 8 :: 9 :: 10 :: 11 :: 12 :: 13 :: 14 :: 15 :: 16 :: 17 :: 18 :: 19 :: 20 :: 21 :: 22 :: 23 :: 24 :: 25 :: 26 :: 27 :: 28 :: 29 :: 30 :: 31 :: 32 :: 33 :: 34 :: 35 :: 36 :: []) [] (by kernel_rfl) (by kernel_rfl) (fun i T z hi hk => by simp [kdOf] at hk <;> (try (split at hk <;> cases hk))) ?_
      intro Wx hWx
      have HTx := zH (HT.out.trans hWx)
      clear hWx HT
      have HT := HTx
      clear HTx
      have p0 := HT.out.kc p0
      have hcr := HT.out.kc hcr
      have y2 := HT.out.kc y2
      have y3 := HT.out.kc y3
      have e1 := HT.out.kc e1
      repeat ((first | (refine run_off rfl rfl (by rfl) ?_) | (refine run_chain_off rfl rfl (by rfl) (K0_mono _) ?_) | ((refine run_want rfl rfl (by rfl) ⟨?_, fun W hW => ?_, ?_⟩; rotate_left; (· (have d0 := hW.kc p0; have d1 := hW.kc hcr; have d2 := hW.kc y2; have d3 := hW.kc y3; have d4 := hW.kc e1; go_simp; (try with_reducible rfl)))))); (try simp only [Act.put, zA, zB, zC]))
      have HHT := zH HT.out
      refine run_chain rfl rfl (by rfl) (fun Wi hWi K' hK => ?_)
      have HTi := zH (HT.out.trans hWi)
      have HZW := zH HTi.out.size
      clear hWi HT
      go_simp
      refine (bigtopref01.In_step x 0 C Wi).mono ?_
      rintro e wn ⟨rfl, hSn⟩
      have HT := zH (HTi.out.trans (StepX.of hSn))
      clear HTi
      refine hK _ _ (StepX.of hSn) ?_
      clear hSn
      (try simp only [Act.put, zA, zB, zC])
      rw [q0]
      have p0 := HT.out.kc HP0.out
      have hcr := HT.out.kc HHCR.out
      have y3 := HT.out.kc HY3.out
      have e1 := HT.out.kc HE1.out
      repeat ((first | (refine run_off rfl rfl (by rfl) ?_) | (refine run_chain_off rfl rfl (by rfl) (K0_mono _) ?_) | ((refine run_want rfl rfl (by rfl) ⟨?_, fun W hW => ?_, ?_⟩; rotate_left; (· (have d0 := hW.kc p0; have d1 := hW.kc hcr; have d2 := hW.kc y3; have d3 := hW.kc e1; go_simp; (try with_reducible rfl)))))); (try simp only [Act.put, zA, zB, zC]))
      refine run_end (L := []) rfl (fun W6 hW6 => ?_)
      have HT6 := zH (HT.out.trans hW6)
      clear hW6 HT p0 hcr y3 e1 q0
      have HTR := zH (HTR2.out.trans HT6.out)
      have HV := zH hno
      clear hno
      go_wp2
      go_ret
      exact ⟨by rw [HV.out]; rfl, HS.out.trans HTR.out⟩
     | true =>
     have hx0 : 0 ≤ x ∧ x ≤ C := by rw [q0] at hwb; simpa using hwb.symm
     have HE2 := zH (show entOk h T pl i t = decide (0 < x → t + D ≤ T) by rw [HE.out, decide_eq_true hx0]; rfl)
     clear hwb hx0
     by_cases hpos : 0 < x
     ·have d1 : decide (0 < x) = true := decide_eq_true hpos
      by_cases hle : t + D ≤ T
      ·have d2 : decide (T < t + D) = false := decide_eq_false (by omega)
       have d3 : decide ((T : Int) < ((t + D : Nat) : Int)) = false := decide_eq_false (by omega)
       have d4 : decide ((T : Int) < (t : Int) + (D : Int)) = false := decide_eq_false (by omega)
       have HE3 := zH (show entOk h T pl i t = true by rw [HE2.out]; simp [hle])
       clear hle hpos
       refine wp_region_seq (kdOf [13] []) (0 :: 0 :: 3 :: 7 :: 0 :: 31 :: 63 :: 0 :: 128 :: 0 :: 896 :: 1920 :: 3968 :: 8191 :: 16383 :: 32767 :: 65535 :: 65535 :: 262143 :: 524287 :: 65535 :: 2097151 :: 4194303 :: 8388607 :: 16777215 :: 33554431 :: 33554431 :: 100663295 :: 33554431 :: 503316479 :: 1040187391 :: 2113929215 :: 4294967295 :: 33554431 :: 17179869183 :: 34359738367 :: 68719476735 :: []) (0 :: 1 :: 2 :: 3 :: 4 :: 5 :: 6 :: 7 :: 8 :: 9 :: 10 :: 11 :: 12 :: 13 :: 14 :: 15 :: 16 :: 17 :: 18 :: 19 :: 20 :: 21 :: 22 :: 23 :: 24 :: 25 :: 26 :: 27 :: 28 :: 29 :: 30 :: 31 :: 32 :: 33 :: 34 :: 35 :: 36 :: []) [] (by kernel_rfl) (by kernel_rfl) (fun i T z hi hk => by simp [kdOf] at hk <;> (try (split at hk <;> cases hk))) ?_
       intro Wx hWx
       have HTx := zH (HT.out.trans hWx)
       clear hWx HT
       have HT := HTx
       clear HTx
       have p0 := HT.out.kc p0
       have hcr := HT.out.kc hcr
       have y2 := HT.out.kc y2
       have y3 := HT.out.kc y3
       have e1 := HT.out.kc e1
       repeat ((first | (refine run_off rfl rfl (by rfl) ?_) | (refine run_chain_off rfl rfl (by rfl) (K0_mono _) ?_) | ((refine run_want rfl rfl (by rfl) ⟨?_, fun W hW => ?_, ?_⟩; rotate_left; (· (have d0 := hW.kc p0; have d1 := hW.kc hcr; have d2 := hW.kc y2; have d3 := hW.kc y3; have d4 := hW.kc e1; go_simp; (try with_reducible rfl)))))); (try simp only [Act.put, zA, zB, zC]))
       have HHT := zH HT.out
       refine run_chain rfl rfl (by rfl) (fun Wi hWi K' hK => ?_)
       have HTi := zH (HT.out.trans hWi)
       have HZW := zH HTi.out.size
       clear hWi HT
       go_simp
       refine (bigtopref01.In_step x 0 C Wi).mono ?_
       rintro e wn ⟨rfl, hSn⟩
       have HT := zH (HTi.out.trans (StepX.of hSn))
       clear HTi
       refine hK _ _ (StepX.of hSn) ?_
       clear hSn
       (try simp only [Act.put, zA, zB, zC])
       rw [q0]
       have p0 := HT.out.kc HP0.out
       have hcr := HT.out.kc HHCR.out
       have y3 := HT.out.kc HY3.out
       have e1 := HT.out.kc HE1.out
       repeat ((first | (refine run_off rfl rfl (by rfl) ?_) | (refine run_chain_off rfl rfl (by rfl) (K0_mono _) ?_) | ((refine run_want rfl rfl (by rfl) ⟨?_, fun W hW => ?_, ?_⟩; rotate_left; (· (have d0 := hW.kc p0; have d1 := hW.kc hcr; have d2 := hW.kc y3; have d3 := hW.kc e1; go_simp; (try with_reducible rfl)))))); (try simp only [Act.put, zA, zB, zC]))
       refine run_end (L := []) rfl (fun W6 hW6 => ?_)
       have HT6 := zH (HT.out.trans hW6)
       clear hW6 HT p0 hcr y3 e1 q0
       have HT2 := zH (HT2.out.trans HT6.out)
       go_wp2
       go_roundw
       case rel =>
        refine ⟨t + 1, by omega, by go_num, fun u hu => ?_, HT2.out⟩
        by_cases e : u = t
        ·rw [e]; exact HE3.out
        ·exact HENT.out u (by omega)
       case measure => simp [intOf]; omega
      ·have d2 : decide (T < t + D) = true := decide_eq_true (by omega)
       have d3 : decide ((T : Int) < ((t + D : Nat) : Int)) = true := decide_eq_true (by omega)
       have d4 : decide ((T : Int) < (t : Int) + (D : Int)) = true := decide_eq_true (by omega)
       have hno := HBAD.out (by rw [HE2.out]; simp [hpos, hle])
       clear hle hpos
       refine wp_region_seq (kdOf [13] []) (0 :: 0 :: 3 :: 7 :: 0 :: 31 :: 63 :: 0 :: 128 :: 0 :: 896 :: 1920 :: 3968 :: 8191 :: 16383 :: 32767 :: 65535 :: 65535 :: 262143 :: 524287 :: 65535 :: 2097151 :: 4194303 :: 8388607 :: 16777215 :: 33554431 :: 33554431 :: 100663295 :: 33554431 :: 503316479 :: 1040187391 :: 2113929215 :: 4294967295 :: 33554431 :: 17179869183 :: 34359738367 :: 68719476735 :: []) (0 :: 1 :: 2 :: 3 :: 4 :: 5 :: 6 :: 7 :: 8 :: 9 :: 10 :: 11 :: 12 :: 13 :: 14 :: 15 :: 16 :: 17 :: 18 :: 19 :: 20 :: 21 :: 22 :: 23 :: 24 :: 25 :: 26 :: 27 :: 28 :: 29 :: 30 :: 31 :: 32 :: 33 :: 34 :: 35 :: 36 :: []) [] (by kernel_rfl) (by kernel_rfl) (fun i T z hi hk => by simp [kdOf] at hk <;> (try (split at hk <;> cases hk))) ?_
       intro Wx hWx
       have HTx := zH (HT.out.trans hWx)
       clear hWx HT
       have HT := HTx
       clear HTx
       have p0 := HT.out.kc p0
       have hcr := HT.out.kc hcr
       have y2 := HT.out.kc y2
       have y3 := HT.out.kc y3
       have e1 := HT.out.kc e1
       repeat ((first | (refine run_off rfl rfl (by rfl) ?_) | (refine run_chain_off rfl rfl (by rfl) (K0_mono _) ?_) | ((refine run_want rfl rfl (by rfl) ⟨?_, fun W hW => ?_, ?_⟩; rotate_left; (· (have d0 := hW.kc p0; have d1 := hW.kc hcr; have d2 := hW.kc y2; have d3 := hW.kc y3; have d4 := hW.kc e1; go_simp; (try with_reducible rfl)))))); (try simp only [Act.put, zA, zB, zC]))
       have HHT := zH HT.out
       refine run_chain rfl rfl (by rfl) (fun Wi hWi K' hK => ?_)
       have HTi := zH (HT.out.trans hWi)
       have HZW := zH HTi.out.size
       clear hWi HT
       go_simp
       refine (bigtopref01.In_step x 0 C Wi).mono ?_
       rintro e wn ⟨rfl, hSn⟩
       have HT := zH (HTi.out.trans (StepX.of hSn))
       clear HTi
       refine hK _ _ (StepX.of hSn) ?_
       clear hSn
       (try simp only [Act.put, zA, zB, zC])
       rw [q0]
       have p0 := HT.out.kc HP0.out
       have hcr := HT.out.kc HHCR.out
       have y3 := HT.out.kc HY3.out
       have e1 := HT.out.kc HE1.out
       repeat ((first | (refine run_off rfl rfl (by rfl) ?_) | (refine run_chain_off rfl rfl (by rfl) (K0_mono _) ?_) | ((refine run_want rfl rfl (by rfl) ⟨?_, fun W hW => ?_, ?_⟩; rotate_left; (· (have d0 := hW.kc p0; have d1 := hW.kc hcr; have d2 := hW.kc y3; have d3 := hW.kc e1; go_simp; (try with_reducible rfl)))))); (try simp only [Act.put, zA, zB, zC]))
       refine run_end (L := []) rfl (fun W6 hW6 => ?_)
       have HT6 := zH (HT.out.trans hW6)
       clear hW6 HT p0 hcr y3 e1 q0
       have HTR := zH (HTR2.out.trans HT6.out)
       have HV := zH hno
       clear hno
       go_wp2
       go_ret
       exact ⟨by rw [HV.out]; rfl, HS.out.trans HTR.out⟩
     ·have d1 : decide (0 < x) = false := decide_eq_false hpos
      have HE3 := zH (show entOk h T pl i t = true by rw [HE2.out]; simp [hpos])
      clear hpos
      refine wp_region_seq (kdOf [13] []) (0 :: 0 :: 3 :: 7 :: 0 :: 31 :: 63 :: 0 :: 128 :: 0 :: 896 :: 1920 :: 3968 :: 8191 :: 16383 :: 32767 :: 65535 :: 65535 :: 262143 :: 524287 :: 65535 :: 2097151 :: 4194303 :: 8388607 :: 16777215 :: 33554431 :: 33554431 :: 100663295 :: 33554431 :: 503316479 :: 1040187391 :: 2113929215 :: 4294967295 :: 33554431 :: 17179869183 :: 34359738367 :: 68719476735 :: []) (0 :: 1 :: 2 :: 3 :: 4 :: 5 :: 6 :: 7 :: 8 :: 9 :: 10 :: 11 :: 12 :: 13 :: 14 :: 15 :: 16 :: 17 :: 18 :: 19 :: 20 :: 21 :: 22 :: 23 :: 24 :: 25 :: 26 :: 27 :: 28 :: 29 :: 30 :: 31 :: 32 :: 33 :: 34 :: 35 :: 36 :: []) [] (by kernel_rfl) (by kernel_rfl) (fun i T z hi hk => by simp [kdOf] at hk <;> (try (split at hk <;> cases hk))) ?_
      intro Wx hWx
      have HTx := zH (HT.out.trans hWx)
      clear hWx HT
      have HT := HTx
      clear HTx
      have p0 := HT.out.kc p0
      have hcr := HT.out.kc hcr
      have y2 := HT.out.kc y2
      have y3 := HT.out.kc y3
      have e1 := HT.out.kc e1
      repeat ((first | (refine run_off rfl rfl (by rfl) ?_) | (refine run_chain_off rfl rfl (by rfl) (K0_mono _) ?_) | ((refine run_want rfl rfl (by rfl) ⟨?_, fun W hW => ?_, ?_⟩; rotate_left; (· (have d0 := hW.kc p0; have d1 := hW.kc hcr; have d2 := hW.kc y2; have d3 := hW.kc y3; have d4 := hW.kc e1; go_simp; (try with_reducible rfl)))))); (try simp only [Act.put, zA, zB, zC]))
      have HHT := zH HT.out
      refine run_chain rfl rfl (by rfl) (fun Wi hWi K' hK => ?_)
      have HTi := zH (HT.out.trans hWi)
      have HZW := zH HTi.out.size
      clear hWi HT
      go_simp
      refine (bigtopref01.In_step x 0 C Wi).mono ?_
      rintro e wn ⟨rfl, hSn⟩
      have HT := zH (HTi.out.trans (StepX.of hSn))
      clear HTi
      refine hK _ _ (StepX.of hSn) ?_
      clear hSn
      (try simp only [Act.put, zA, zB, zC])
      rw [q0]
      have p0 := HT.out.kc HP0.out
      have hcr := HT.out.kc HHCR.out
      have y3 := HT.out.kc HY3.out
      have e1 := HT.out.kc HE1.out
      repeat ((first | (refine run_off rfl rfl (by rfl) ?_) | (refine run_chain_off rfl rfl (by rfl) (K0_mono _) ?_) | ((refine run_want rfl rfl (by rfl) ⟨?_, fun W hW => ?_, ?_⟩; rotate_left; (· (have d0 := hW.kc p0; have d1 := hW.kc hcr; have d2 := hW.kc y3; have d3 := hW.kc e1; go_simp; (try with_reducible rfl)))))); (try simp only [Act.put, zA, zB, zC]))
      refine run_end (L := []) rfl (fun W6 hW6 => ?_)
      have HT6 := zH (HT.out.trans hW6)
      clear hW6 HT p0 hcr y3 e1 q0
      have HT2 := zH (HT2.out.trans HT6.out)
      go_wp2
      go_roundw
      case rel =>
       refine ⟨t + 1, by omega, by go_num, fun u hu => ?_, HT2.out⟩
       by_cases e : u = t
       ·rw [e]; exact HE3.out
       ·exact HENT.out u (by omega)
      case measure => simp [intOf]; omega
    ·have htz : T = t := by omega
     subst htz
     have HRI := zH (rowOk_iff.2 ⟨HR.out.1.trans HRL.out, HENT.out⟩)
     have HTR3 := HTR2
     go_wp2
     go_roundw
     case rel =>
      refine ⟨i + 1, by omega, by go_num, fun j hj => ?_, HTR3.out⟩
      by_cases e : j = i
      ·rw [e]; exact HRI.out
      ·exact HROW.out j (by omega)
     case measure => simp [intOf]; omega
  ·have hiz : pl.length = i := by omega
   have HROW2 := zH (show ∀ j, j < h.ways.length → rowOk h T pl j = true from fun j hj => HROW.out j (by have := HL.out; omega))
   have HP := zH (show ∀ i t, i < (netOf h T).W → t < (netOf h T).T → 0 ≤ planF pl i t ∧ planF pl i t ≤ 1000 from fun j u hj hu => by
    have h1 := (rowOk_iff.1 (HROW2.out j hj)).2 u hu
    simp only [entOk, Bool.and_eq_true, decide_eq_true_eq] at h1
    have h2 := (HO.out.way j hj).2.2.2.1
    rw [wyAt_at hj] at h1
    omega)
   clear HROW
   have HROW := HROW2
   clear HROW2
   have ok := netOf_ok HO.out T
   have HD := zH (And.intro ok.d0 (show ∀ s, s < h.people.length → 0 ≤ (netOf h T).pe s ∧ (netOf h T).pe s ≤ 5000 from fun s hs => by
    have h1 := HO.out.pe s hs
    have h2 : (netOf h T).pe s = h.people[s] := by show h.people.getD s 0 = _; simp [List.getD_eq_getElem?_getD, hs]
    rw [h2]; exact h1))
   have e0 := (HB.out.step HTR.out).cell 0
   simp only [List.getElem?_cons_zero] at e0
   have hcond : ¬ i < pl.length := hpl
   have blr := (HB.out.step HTR.out).lt
   clear ok hiz hi
   go_wp2_with (at_builtin; refine wpl_append (α := Int) (S := fun _ => False) (base := wr.heap.size) (v := .slice (some ⟨wr.heap.size, 0, none⟩) 0 0) (l := []) (m := h.people) eiIntsH rfl _ _ rfl rfl rfl ⟨[], World.ownsRow_lit wr #[] 0 (Nat.le_refl _) (by simp [maxLen]) (by simp), fun i h => absurd h (by simp)⟩ (SL.flat _ ((H0.out.keep (.of_step (HS.out.trans HTR.out))).keep (.alloc _ _))) h.people.length (by simp) h.people rfl ?_ ?_ ?_ ?_)
   ·simp only [maxLen]; omega
   ·omega
   ·simp
   intro p' c' w' hown hg
   have hX : Step wr w' := .of (((Below.refl _ wr).alloc (Nat.le_refl _) _).grown hg (by simp) (by simp [Value.ownBlock]))
   obtain ⟨gt, ct, he, hct, hgt, hnt⟩ := own_nums hown (by have := HO.out.n2; omega)
   injection he with he1 _ he3
   subst he1 he3
   have HT0 := zH (HTR.out.trans hX)
   have HNT := zH hnt
   have HGT := zH (Nat.le_trans HTR.out.size hgt)
   clear hX hown hg hct hgt hnt e0 HTR hcond
   go_wp2
   go_loopw [10] (fun s10 wr => ∃ t : Nat, t ≤ T + 1 ∧ s10 = .int .i64 t ∧ (∀ k, k < t → thereOk h T pl k = true) ∧ Step W0 wr ∧ Nums wr gt 3 h.people.length (fun s => (netOf h T).bef (netOf h T).pe (planF pl) s t)) (fun s10 _ => T + 1 - (intOf s10).toNat)
   case atStart => exact ⟨0, Nat.zero_le _, rfl, (fun k hk => by omega), HT0.out, HNT.out⟩
   case round =>
    obtain ⟨t, ht, rfl, hth, hcm, hnt⟩ := hrel
    have HTH := zH hth
    have HC2 := zH hcm
    have HN2 := zH hnt
    clear hth hcm hnt HT0 HNT
    by_cases htl : t ≤ T
    ·have dl : decide ((t : Int) ≤ (T : Int)) = true := decide_eq_true (by omega)
     have dl' : decide (t ≤ T) = true := decide_eq_true htl
     have e1 := (HB.out.step HC2.out).cell 1
     simp only [zD, zE] at e1
     have HN4 := zH (HN2.out.congr (ψ := fun s => (netOf h T).mid (netOf h T).pe (planF pl) s t 0) fun s hs => by rw [Net.mid_zero])
     go_wp2
     clear e1 dl dl'
     go_loopw [11] (fun s11 wr => ∃ i : Nat, i ≤ h.ways.length ∧ s11 = .int .i64 i ∧ Step W0 wr ∧ Nums wr gt 3 h.people.length (fun s => (netOf h T).mid (netOf h T).pe (planF pl) s t i)) (fun s11 _ => h.ways.length - (intOf s11).toNat)
     case atStart => exact ⟨0, Nat.zero_le _, rfl, HC2.out, HN4.out⟩
     case round =>
      obtain ⟨i, hi, rfl, hcm, hnt⟩ := hrel
      have HC5 := zH hcm
      have HN5 := zH hnt
      clear hcm hnt HN4
      have e1 := (HB.out.step HC5.out).cell 1
      simp only [zD, zE] at e1
      by_cases hil : i < h.ways.length
      ·obtain rfl := HPW.out.1 (by omega)
       obtain ⟨y0, y1, y2, y3⟩ := HPW.out.2 i hil
       obtain ⟨wa, wb, wc, wd⟩ := way_conds HO.out T hil
       have hwy := HO.out.way i hil
       rw [← wa] at y0 hwy
       rw [← wb] at y1 hwy
       rw [← wd] at y2 hwy
       rw [← wc] at y3 hwy
       obtain ⟨U, hU⟩ : ∃ z, z = (netOf h T).u i := ⟨_, rfl⟩
       obtain ⟨V, hV⟩ : ∃ z, z = (netOf h T).v i := ⟨_, rfl⟩
       obtain ⟨D, hD⟩ : ∃ z, z = (netOf h T).d i := ⟨_, rfl⟩
       rw [← hU] at y0 hwy
       rw [← hV] at y1 hwy
       rw [← hD] at y3 hwy
       have hst := HS.out.trans HC5.out
       have y0 := hst.kc y0
       have y1 := hst.kc y1
       have y2 := hst.kc y2
       have y3 := hst.kc y3
       have hUn : U < h.people.length := by omega
       have hVn : V < h.people.length := by omega
       have hD1 : 1 ≤ D ∧ D ≤ 15 := by omega
       have hpl : i < pl.length := by have := HL.out; omega
       obtain rfl := HPC.out.1 (by omega)
       have HU := zH (And.intro hU (And.intro hV hD))
       have hix : (0 : Int) ≤ (i : Int) ∧ (i : Int) < (h.ways.length : Int) := by omega
       obtain ⟨C, hC⟩ : ∃ z, z = (netOf h T).c i := ⟨_, rfl⟩
       rw [← hC] at y2
       clear wa wb wc wd hwy hU hV hD hst hC
       go_upto_region 21 with (fail)
       clear y0 y1 y2 y3 e1
       obtain ⟨W8, hW8⟩ : ∃ z, z = wr.alloc (.cells #[.int .i64 U, .int .i64 V, .int .i64 C, .int .i64 D] 107) := ⟨_, rfl⟩
       obtain ⟨g8, hg8⟩ : ∃ z, z = wr.heap.size := ⟨_, rfl⟩
       rw [← hW8, ← hg8]
       have hb8 : Bx W8 g8 [.int .i64 U, .int .i64 V, .int .i64 C, .int .i64 D] 107 := by subst hW8 hg8; exact Bx.new _ [_, _, _, _] _
       have hS8 : Step wr W8 := by subst hW8; exact Step.alloc _ _
       obtain ⟨q0, q1, q2, q3⟩ := cellsW hb8
       have HN8 := zH (HN5.out.row (hS8.block gt HN5.out.lt id))
       have HC8 := zH (HC5.out.trans hS8)
       have HB8 := zH hb8
       have HNB := zH (bx_ne hb8 HN8.out.choose_spec.1 (by decide))
       clear hb8 hS8 hW8 hg8 HC5 HN5 q2
       by_cases hDt : D ≤ t
       ·have dD : decide ((D : Int) ≤ (t : Int)) = true := decide_eq_true (by omega)
        have dD' : decide (D ≤ t) = true := decide_eq_true hDt
        obtain ⟨ur, hcr, hur⟩ := HPC.out.2 i hpl
        obtain ⟨pr, kr, br, or_, rfl, _, _, hpr, hcr2, _⟩ := hur.ints
        have hrl : pl[i].length = T := by
         have h1 := (rowOk_iff.1 (HROW.out i hil)).1
         rw [List.getD_eq_getElem?_getD, List.getElem?_eq_getElem hpl, Option.getD_some] at h1
         exact h1
        obtain rfl := hpr (by omega)
        have hst := HS.out.trans HC8.out
        obtain ⟨K, hK⟩ : ∃ z, z = t - D := ⟨_, rfl⟩
        have hKT : K < T := by omega
        have hcr := hst.kc hcr
        have p0 := hst.kc (hcr2 K (by omega))
        have hpf : planF pl i K = pl[i][K]'(by omega) := by simp [planF, List.getD_eq_getElem?_getD, hpl, hrl, hKT]
        rw [← hpf] at p0
        rw [hrl] at hcr
        obtain ⟨x, hx⟩ : ∃ z, z = planF pl i K := ⟨_, rfl⟩
        rw [← hx] at p0
        have t0 := HN8.out.cell hVn
        obtain ⟨x0, hx0⟩ : ∃ z, z = (netOf h T).mid (netOf h T).pe (planF pl) V t i := ⟨_, rfl⟩
        rw [← hx0] at t0
        have hb1 := Net.mid_le HP.out HD.out.1 V (HD.out.2 V hVn) hw20 t i hi
        rw [← hx0] at hb1
        have hb2 := HP.out i K hil hKT
        rw [← hx] at hb2
        have hwx : IntKind.i64.wrap (x0 + x) = x0 + x := by rw [IntKind.wrap_i64]; omega
        have hwK : IntKind.i64.wrap ((t : Int) - (D : Int)) = (K : Int) := by rw [IntKind.wrap_i64] <;> omega
        have HX := zH (And.intro hx0 (And.intro hx hK))
        have hixp : (0 : Int) ≤ (i : Int) ∧ (i : Int) < (pl.length : Int) := by omega
        have hixt : (0 : Int) ≤ (K : Int) ∧ (K : Int) < (T : Int) := by omega
        have hixV : (0 : Int) ≤ (V : Int) ∧ (V : Int) < (h.people.length : Int) := by omega
        clear hur hpr hcr2 hrl hst hpf hx hx0 hb1 hb2 hK
        go_upto_region 22 with (fail)
        refine wp_region_seq (kdOf [] []) [0, 0, 2, 0, 0, 16, 56, 120, 0, 0, 768, 1792, 0, 0, 8192, 28672, 65280, 130816, 262136, 524287, 1048575] [0, 1, 2, 3, 4, 5, 6, 7, 8, 9, 10, 11, 12, 13, 14, 15, 16, 17, 18, 19] [20] (by kernel_rfl) (by kernel_rfl) (fun i T z hi hk => by simp [kdOf] at hk <;> (try (split at hk <;> cases hk))) ?_
        intro Wx hWx
        have HT9 := zH hWx
        clear hWx
        have q1 := HT9.out.kc q1
        have q3 := HT9.out.kc q3
        have hcr := HT9.out.kc hcr
        have p0 := HT9.out.kc p0
        have t0 := HT9.out.kc t0
        repeat ((first | (refine run_off rfl rfl (by rfl) ?_) | (refine run_chain_off rfl rfl (by rfl) (K0_mono _) ?_) | ((refine run_want rfl rfl (by rfl) ⟨?_, fun W hW => ?_, ?_⟩; rotate_left; (· (have d0 := hW.kc q1; have d1 := hW.kc q3; have d2 := hW.kc hcr; have d3 := hW.kc p0; have d4 := hW.kc t0; go_simp; (try with_reducible rfl)))))); (try simp only [Act.put, zA, zB, zC]))
        refine run_end (L := [_]) rfl (fun W6 hW6 => ?_)
        have HC6 := zH (HC8.out.trans (HT9.out.trans hW6))
        have HN6 := zH (HN8.out.row ((HT9.out.trans hW6).block gt HN8.out.lt id))
        have HB6 := zH (HB8.out.step (HT9.out.trans hW6))
        clear hW6 HT9 hcr p0 t0 q0 q1 q3 dD dD'
        have zc := HN6.out.cell hVn
        have zz := HN6.out.frozen V
        have zl := HN6.out.lt
        go_upto_region 23 with (fail)
        clear zc zz zl
        obtain ⟨W9, hW9⟩ : ∃ z, z = W6.setCell ⟨gt, V, none⟩ (.int .i64 (x0 + x)) := ⟨_, rfl⟩
        rw [← hW9]
        obtain ⟨ψ, hψ⟩ : ∃ z : Nat → Int, z = fun s => if s = V then x0 + x else (netOf h T).mid (netOf h T).pe (planF pl) s t i := ⟨_, rfl⟩
        have HN9 := zH (show Nums W9 gt 3 h.people.length ψ by rw [hψ]; subst hW9; exact HN6.out.set (t := V) (x0 + x))
        have HC9 := zH (show Step W0 W9 by subst hW9; exact HC6.out.setNew _ _ HGT.out)
        have q0 := (cellsW (show Bx W9 g8 _ _ by subst hW9; exact HB6.out.setOther HNB.out)).1
        have HPS := zH (show ∀ s, ψ s = (netOf h T).mid (netOf h T).pe (planF pl) s t i + (netOf h T).arr (planF pl) s t i from fun s => by
         rw [hψ]
         unfold Net.arr
         rw [← HU.out.2.1, ← HU.out.2.2, ← HX.out.2.2]
         show (if s = V then x0 + x else _) = _
         by_cases e : s = V
         ·rw [if_pos e, if_pos ⟨e.symm, hDt, hKT⟩, e, HX.out.1, HX.out.2.1]
         ·rw [if_neg e, if_neg fun e' => e e'.1.symm, Int.add_zero])
        have HBP := zH (show ∀ s, s < h.people.length → -2000000 ≤ ψ s ∧ ψ s ≤ 2000000 from fun s hs => by
         rw [HPS.out s]
         have h1 := Net.mid_le HP.out HD.out.1 s (HD.out.2 s hs) hw20 t i hi
         have h2 := Net.arr_le HP.out s t hil
         omega)
        clear hW9 hψ HN8 HC8 HC6 HN6 HB6
        by_cases htT : t < T
        ·have dT : decide ((t : Int) < (T : Int)) = true := decide_eq_true (by omega)
         have dT' : decide (t < T) = true := decide_eq_true htT
         obtain ⟨ur, hcr, hur⟩ := HPC.out.2 i hpl
         obtain ⟨pr, kr, br, or_, rfl, _, _, hpr, hcr2, _⟩ := hur.ints
         have hrl : pl[i].length = T := by
          have h1 := (rowOk_iff.1 (HROW.out i hil)).1
          rw [List.getD_eq_getElem?_getD, List.getElem?_eq_getElem hpl, Option.getD_some] at h1
          exact h1
         obtain rfl := hpr (by omega)
         have hst := HS.out.trans HC9.out
         have hcr := hst.kc hcr
         have p0 := hst.kc (hcr2 t (by omega))
         have hpf : planF pl i t = pl[i][t]'(by omega) := by simp [planF, List.getD_eq_getElem?_getD, hpl, hrl, htT]
         rw [← hpf] at p0
         rw [hrl] at hcr
         obtain ⟨x, hx⟩ : ∃ z, z = planF pl i t := ⟨_, rfl⟩
         rw [← hx] at p0
         have t0 := HN9.out.cell hUn
         obtain ⟨x0, hx0⟩ : ∃ z, z = ψ U := ⟨_, rfl⟩
         rw [← hx0] at t0
         have hb1 := HBP.out U hUn
         rw [← hx0] at hb1
         have hb2 := HP.out i t hil htT
         rw [← hx] at hb2
         have hwx : IntKind.i64.wrap (x0 - x) = x0 - x := by rw [IntKind.wrap_i64]; omega
         have HX := zH (And.intro hx0 hx)
         have hixp : (0 : Int) ≤ (i : Int) ∧ (i : Int) < (pl.length : Int) := by omega
         have hixt : (0 : Int) ≤ (t : Int) ∧ (t : Int) < (T : Int) := by omega
         have hixU : (0 : Int) ≤ (U : Int) ∧ (U : Int) < (h.people.length : Int) := by omega
         clear hur hpr hcr2 hrl hst hpf hx hx0 hb1 hb2
         go_upto_region 24 with (fail)
         refine wp_region_seq (kdOf [] []) [0, 0, 2, 0, 0, 16, 56, 120, 0, 0, 768, 1792, 0, 7936, 16128, 32760, 65535, 131071] [0, 1, 2, 3, 4, 5, 6, 7, 8, 9, 10, 11, 12, 13, 14, 15, 16] [17] (by kernel_rfl) (by kernel_rfl) (fun i T z hi hk => by simp [kdOf] at hk <;> (try (split at hk <;> cases hk))) ?_
         intro Wx hWx
         have HT9 := zH hWx
         clear hWx
         have q0 := HT9.out.kc q0
         have hcr := HT9.out.kc hcr
         have p0 := HT9.out.kc p0
         have t0 := HT9.out.kc t0
         repeat ((first | (refine run_off rfl rfl (by rfl) ?_) | (refine run_chain_off rfl rfl (by rfl) (K0_mono _) ?_) | ((refine run_want rfl rfl (by rfl) ⟨?_, fun W hW => ?_, ?_⟩; rotate_left; (· (have d0 := hW.kc q0; have d1 := hW.kc hcr; have d2 := hW.kc p0; have d3 := hW.kc t0; go_simp; (try with_reducible rfl)))))); (try simp only [Act.put, zA, zB, zC]))
         refine run_end (L := [_]) rfl (fun W6 hW6 => ?_)
         have HC6 := zH (HC9.out.trans (HT9.out.trans hW6))
         have HN6 := zH (HN9.out.row ((HT9.out.trans hW6).block gt HN9.out.lt id))
         clear hW6 HT9 hcr p0 t0 q0
         have zc := HN6.out.cell hUn
         have zz := HN6.out.frozen U
         have zl := HN6.out.lt
         go_wp2
         go_roundw
         case rel =>
          refine ⟨i + 1, by omega, by go_num, HC6.out.setNew _ _ HGT.out, (HN6.out.set (t := U) (x0 - x)).congr fun s hs => ?_⟩
          rw [Net.mid_next]
          unfold Net.dep
          rw [← HU.out.1, ← HPS.out s]
          by_cases e : s = U
          ·rw [if_pos e, if_pos ⟨e.symm, htT⟩, e, HX.out.1, HX.out.2]
          ·rw [if_neg e, if_neg fun e' => e e'.1.symm, Int.sub_zero]
         case measure => simp [intOf]; omega
        ·have dT : decide ((t : Int) < (T : Int)) = false := decide_eq_false (by omega)
         have dT' : decide (t < T) = false := decide_eq_false htT
         go_wp2
         go_roundw
         case rel =>
          refine ⟨i + 1, by omega, by go_num, HC9.out, HN9.out.congr fun s hs => ?_⟩
          rw [Net.mid_next]
          unfold Net.dep
          rw [← HPS.out s, if_neg fun e' => htT e'.2, Int.sub_zero]
         case measure => simp [intOf]; omega
       ·have dD : decide ((D : Int) ≤ (t : Int)) = false := decide_eq_false (by omega)
        have dD' : decide (D ≤ t) = false := decide_eq_false hDt
        go_upto_region 23 with (fail)
        clear dD dD' q1 q3
        obtain ⟨ψ, hψ⟩ : ∃ z : Nat → Int, z = fun s => (netOf h T).mid (netOf h T).pe (planF pl) s t i := ⟨_, rfl⟩
        have HN9 := zH (show Nums W8 gt 3 h.people.length ψ by rw [hψ]; exact HN8.out)
        have HC9 := HC8
        have HPS := zH (show ∀ s, ψ s = (netOf h T).mid (netOf h T).pe (planF pl) s t i + (netOf h T).arr (planF pl) s t i from fun s => by
         rw [hψ]
         unfold Net.arr
         rw [← HU.out.2.2, if_neg fun e' => hDt e'.2.1, Int.add_zero])
        have HBP := zH (show ∀ s, s < h.people.length → -2000000 ≤ ψ s ∧ ψ s ≤ 2000000 from fun s hs => by
         rw [HPS.out s]
         have h1 := Net.mid_le HP.out HD.out.1 s (HD.out.2 s hs) hw20 t i hi
         have h2 := Net.arr_le HP.out s t hil
         omega)
        clear hψ HN8 HC8
        by_cases htT : t < T
        ·have dT : decide ((t : Int) < (T : Int)) = true := decide_eq_true (by omega)
         have dT' : decide (t < T) = true := decide_eq_true htT
         obtain ⟨ur, hcr, hur⟩ := HPC.out.2 i hpl
         obtain ⟨pr, kr, br, or_, rfl, _, _, hpr, hcr2, _⟩ := hur.ints
         have hrl : pl[i].length = T := by
          have h1 := (rowOk_iff.1 (HROW.out i hil)).1
          rw [List.getD_eq_getElem?_getD, List.getElem?_eq_getElem hpl, Option.getD_some] at h1
          exact h1
         obtain rfl := hpr (by omega)
         have hst := HS.out.trans HC9.out
         have hcr := hst.kc hcr
         have p0 := hst.kc (hcr2 t (by omega))
         have hpf : planF pl i t = pl[i][t]'(by omega) := by simp [planF, List.getD_eq_getElem?_getD, hpl, hrl, htT]
         rw [← hpf] at p0
         rw [hrl] at hcr
         obtain ⟨x, hx⟩ : ∃ z, z = planF pl i t := ⟨_, rfl⟩
         rw [← hx] at p0
         have t0 := HN9.out.cell hUn
         obtain ⟨x0, hx0⟩ : ∃ z, z = ψ U := ⟨_, rfl⟩
         rw [← hx0] at t0
         have hb1 := HBP.out U hUn
         rw [← hx0] at hb1
         have hb2 := HP.out i t hil htT
         rw [← hx] at hb2
         have hwx : IntKind.i64.wrap (x0 - x) = x0 - x := by rw [IntKind.wrap_i64]; omega
         have HX := zH (And.intro hx0 hx)
         have hixp : (0 : Int) ≤ (i : Int) ∧ (i : Int) < (pl.length : Int) := by omega
         have hixt : (0 : Int) ≤ (t : Int) ∧ (t : Int) < (T : Int) := by omega
         have hixU : (0 : Int) ≤ (U : Int) ∧ (U : Int) < (h.people.length : Int) := by omega
         clear hur hpr hcr2 hrl hst hpf hx hx0 hb1 hb2
         go_upto_region 24 with (fail)
         refine wp_region_seq (kdOf [] []) [0, 0, 2, 0, 0, 16, 56, 120, 0, 0, 768, 1792, 0, 7936, 16128, 32760, 65535, 131071] [0, 1, 2, 3, 4, 5, 6, 7, 8, 9, 10, 11, 12, 13, 14, 15, 16] [17] (by kernel_rfl) (by kernel_rfl) (fun i T z hi hk => by simp [kdOf] at hk <;> (try (split at hk <;> cases hk))) ?_
         intro Wx hWx
         have HT9 := zH hWx
         clear hWx
         have q0 := HT9.out.kc q0
         have hcr := HT9.out.kc hcr
         have p0 := HT9.out.kc p0
         have t0 := HT9.out.kc t0
         repeat ((first | (refine run_off rfl rfl (by rfl) ?_) | (refine run_chain_off rfl rfl (by rfl) (K0_mono _) ?_) | ((refine run_want rfl rfl (by rfl) ⟨?_, fun W hW => ?_, ?_⟩; rotate_left; (· (have d0 := hW.kc q0; have d1 := hW.kc hcr; have d2 := hW.kc p0; have d3 := hW.kc t0; go_simp; (try with_reducible rfl)))))); (try simp only [Act.put, zA, zB, zC]))
         refine run_end (L := [_]) rfl (fun W6 hW6 => ?_)
         have HC6 := zH (HC9.out.trans (HT9.out.trans hW6))
         have HN6 := zH (HN9.out.row ((HT9.out.trans hW6).block gt HN9.out.lt id))
         clear hW6 HT9 hcr p0 t0 q0
         have zc := HN6.out.cell hUn
         have zz := HN6.out.frozen U
         have zl := HN6.out.lt
         go_wp2
         go_roundw
         case rel =>
          refine ⟨i + 1, by omega, by go_num, HC6.out.setNew _ _ HGT.out, (HN6.out.set (t := U) (x0 - x)).congr fun s hs => ?_⟩
          rw [Net.mid_next]
          unfold Net.dep
          rw [← HU.out.1, ← HPS.out s]
          by_cases e : s = U
          ·rw [if_pos e, if_pos ⟨e.symm, htT⟩, e, HX.out.1, HX.out.2]
          ·rw [if_neg e, if_neg fun e' => e e'.1.symm, Int.sub_zero]
         case measure => simp [intOf]; omega
        ·have dT : decide ((t : Int) < (T : Int)) = false := decide_eq_false (by omega)
         have dT' : decide (t < T) = false := decide_eq_false htT
         go_wp2
         go_roundw
         case rel =>
          refine ⟨i + 1, by omega, by go_num, HC9.out, HN9.out.congr fun s hs => ?_⟩
          rw [Net.mid_next]
          unfold Net.dep
          rw [← HPS.out s, if_neg fun e' => htT e'.2, Int.sub_zero]
         case measure => simp [intOf]; omega
      ·have hiz : h.ways.length = i := by omega
       subst hiz
       have HF := zH (show ∀ s, (netOf h T).mid (netOf h T).pe (planF pl) s t h.ways.length = (netOf h T).F (netOf h T).pe (planF pl) s t from fun s => Net.mid_all HD.out.1 _ _ s t)
       have HN6 := zH (HN5.out.congr fun s _ => HF.out s)
       go_wp2
       go_loopw [13] (fun s13 wr2 => ∃ s : Nat, s ≤ h.people.length ∧ s13 = .int .i64 s ∧ (∀ j, j < s → 0 ≤ (netOf h T).F (netOf h T).pe (planF pl) j t) ∧ Step wr wr2) (fun s13 _ => h.people.length - (intOf s13).toNat)
       case atStart => exact ⟨0, Nat.zero_le _, rfl, (fun j hj => by omega), Step.refl _⟩
       case round =>
        obtain ⟨s, hs, rfl, hnn, hT3⟩ := hrel
        have HNN := zH hnn
        have HT3 := zH hT3
        have HN7 := zH (HN6.out.row (hT3.block gt HN6.out.lt id))
        have HTR := zH (HC5.out.trans hT3)
        clear hnn hT3 e1
        by_cases hsl : s < h.people.length
        ·have t0 := HN7.out.cell hsl
         obtain ⟨x, hx⟩ : ∃ z, z = (netOf h T).F (netOf h T).pe (planF pl) s t := ⟨_, rfl⟩
         rw [← hx] at t0
         have hixs : (0 : Int) ≤ (s : Int) ∧ (s : Int) < (h.people.length : Int) := by omega
         by_cases q : x < 0
         ·have dq : decide (x < 0) = true := decide_eq_true q
          have hno := outB_there (pl := pl) htl fun hk => by
           have h1 := List.all_eq_true.1 hk s (List.mem_range.2 hsl)
           rw [decide_eq_true_eq, ← hx] at h1
           omega
          clear q hx
          have HV := zH hno
          clear hno
          go_wp2
          go_ret
          exact ⟨by rw [HV.out]; rfl, HS.out.trans HTR.out⟩
         ·have dq : decide (x < 0) = false := decide_eq_false q
          have HX := zH (show 0 ≤ (netOf h T).F (netOf h T).pe (planF pl) s t by rw [← hx]; omega)
          clear q hx
          go_wp2
          go_roundw
          case rel =>
           refine ⟨s + 1, by omega, by go_num, fun j hj => ?_, HT3.out⟩
           by_cases e : j = s
           ·rw [e]; exact HX.out
           ·exact HNN.out j (by omega)
          case measure => simp [intOf]; omega
        ·have hsz : h.people.length = s := by omega
         have HTO := zH (show thereOk h T pl t = true from List.all_eq_true.2 fun j hj => decide_eq_true (HNN.out j (by have := List.mem_range.1 hj; omega)))
         clear hsz
         go_wp2
         go_roundw
         case rel =>
          refine ⟨t + 1, by omega, by go_num, fun k hk => ?_, HTR.out, HN7.out⟩
          by_cases e : k = t
          ·rw [e]; exact HTO.out
          ·exact HTH.out k (by omega)
         case measure => simp [intOf]; omega
    ·have dl : decide ((t : Int) ≤ (T : Int)) = false := decide_eq_false (by omega)
     have dl' : decide (t ≤ T) = false := decide_eq_false htl
     have htz : t = T + 1 := by omega
     subst htz
     have HE := zH (outB_end (T := T) HL.out HROW.out fun k hk => HTH.out k (by omega))
     have hn0 : 0 < h.people.length := by have := HO.out.n2; omega
     have t0 := HN2.out.cell hn0
     have hF : (netOf h T).bef (netOf h T).pe (planF pl) 0 (T + 1) = (netOf h T).F (netOf h T).pe (planF pl) 0 T := rfl
     rw [hF] at t0
     obtain ⟨f0, hf0⟩ : ∃ z, z = (netOf h T).F (netOf h T).pe (planF pl) 0 T := ⟨_, rfl⟩
     rw [← hf0] at t0 HE
     have e0 := (HB.out.step HC2.out).cell 0
     have e1 := (HB.out.step HC2.out).cell 1
     simp only [zD, zE] at e0 e1
     have hx0 : (0 : Int) ≤ 0 ∧ (0 : Int) < (h.people.length : Int) := by omega
     clear hF hf0 htl ht
     go_upto_region 30 with (fail)
     refine wp_region_seq (kdOf [4] []) [0, 1, 3, 0, 8, 31, 63] [0, 1, 2, 3, 4, 5, 6] [] (by kernel_rfl) (by kernel_rfl) (fun i T z hi hk => by simp [kdOf] at hk <;> (try (split at hk <;> cases hk))) ?_
     intro Wx hWx
     have HT := zH hWx
     clear hWx
     have e0 := HT.out.kc e0
     have e1 := HT.out.kc e1
     have t0 := HT.out.kc t0
     repeat ((first | (refine run_off rfl rfl (by rfl) ?_) | (refine run_chain_off rfl rfl (by rfl) (K0_mono _) ?_) | ((refine run_want rfl rfl (by rfl) ⟨?_, fun W hW => ?_, ?_⟩; rotate_left; (· (have d0 := hW.kc e0; have d1 := hW.kc e1; have d2 := hW.kc t0; go_simp; (try with_reducible rfl)))))); (try simp only [Act.put, zA, zB, zC]))
     clear e0 e1 t0
     refine run_chain rfl rfl (by rfl) (fun Wi hWi K' hK => ?_)
     have HTi := zH (HT.out.trans hWi)
     clear hWi HT
     go_simp
     refine (RAllH_any (fun _ => False) h _ Wi (HAV.out Wi (HC2.out.trans HTi.out)) HO.out).mono ?_
     rintro e wn ⟨rfl, hSn⟩
     have HT := zH (HTi.out.trans hSn)
     refine hK _ _ (StepX.of hSn) ?_
     clear hSn HTi hK
     (try simp only [Act.put, zA, zB, zC])
     repeat ((first | (refine run_off rfl rfl (by rfl) ?_) | (refine run_chain_off rfl rfl (by rfl) (K0_mono _) ?_) | ((refine run_want rfl rfl (by rfl) ⟨?_, fun W hW => ?_, ?_⟩; rotate_left; (· (skip; go_simp; (try with_reducible rfl)))))); (try simp only [Act.put, zA, zB, zC]))
     refine run_end (L := []) rfl (fun W6 hW6 => ?_)
     have HT6 := zH ((HC2.out.trans HT.out).trans hW6)
     clear hW6 HT
     go_wp2
     go_ret
     refine ⟨?_, HS.out.trans HT6.out⟩
     rw [HE.out]
     first | rfl | simp [Bool.beq_eq_decide_eq]
end Go.Proofs.Ytfhmdpicoccnfaa
